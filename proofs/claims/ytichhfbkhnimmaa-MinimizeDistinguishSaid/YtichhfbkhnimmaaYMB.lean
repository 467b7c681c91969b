/- Trees, plainly: sizes, depths, orders, places. No condition. -/
import Derived.Test.YtichhfbkhnimmaaXW
set_option linter.unusedSimpArgs false
set_option linter.unusedVariables false
namespace Go.Rt
open Go
inductive Tr where
 |node (s:Int) (l:List Tr)
instance:Inhabited Tr:=⟨.node 0 []⟩
def Tr.sym:Tr→Int
 | .node s _=>s
abbrev w64i (a:Int):Int:=IntKind.i64.wrap a
mutual
def sizeW:Tr→Int
 | .node _ l=>sizeL 1 l
def sizeL:Int→List Tr→Int
 |n,[]=>n
 |n,t::ts=>sizeL (w64i (n+sizeW t)) ts
end
mutual
def nodesE (r:List Int):Tr→Nat
 | .node s l=>if s<0∨(r.length:Int)≤s then 6 else if (l.length:Int)≠r.getD s.toNat 0 then 3 else nodesL r l
def nodesL (r:List Int):List Tr→Nat
 | []=>0
 |t::ts=>if nodesE r t≠0 then nodesE r t else nodesL r ts
end
def alphaE (r:List Int):Nat:=
 if r.length<1∨4096<r.length then 2 else if ∃ n∈r,n<0∨2<n then 3 else if (0:Int)∈r then 0 else 9
def cmpI (a b:Int):Int:=if a<b then -1 else if a>b then 1 else 0
mutual
def cmpT:Tr→Tr→Int
 |  .node s l,.node s' l'=>
    if cmpI (sizeL 1 l) (sizeL 1 l')≠0 then cmpI (sizeL 1 l) (sizeL 1 l') else if cmpI s s'≠0 then cmpI s s' else if cmpI l.length l'.length≠0 then cmpI l.length l'.length else cmpL l l'
def cmpL:List Tr→List Tr→Int
 |t::ts,u::us=>if cmpT t u≠0 then cmpT t u else cmpL ts us
 |_,_=>0
end
end Go.Rt
set_option linter.unusedSectionVars false
set_option maxHeartbeats 400000
namespace Go.Rt
open Go Go.RowKit Go.PP Go.Dm
variable [GlobW]
mutual
def treeC:Tr→List D
 | .node s l=> [.flat (.int .i64 s),.sl false 2 l.length (kidsC l)]
def kidsC:List Tr→List D
 | []=> []
 |t::ts=>treeC t++kidsC ts
end
abbrev treeD (t:Tr):D:= .agg (treeC t)
mutual
def TSm:Tr→Prop
 | .node _ l=>l.length*32≤140737488351232∧TSmL l
def TSmL:List Tr→Prop
 | []=>True
 |t::ts=>TSm t∧TSmL ts
end
mutual
def SymR:Tr→Prop
 | .node s l=>(-9223372036854775808≤s∧s≤9223372036854775807)∧SymRL l
def SymRL:List Tr→Prop
 | []=>True
 |t::ts=>SymR t∧SymRL ts
end
theorem SymRL.at:∀ {l:List Tr},SymRL l→ ∀ {i:Nat} {t:Tr},l[i]?=some t→SymR t
 | [],_,i,t,h=>by simp at h
 |x::xs,hs,i,t,h=>by
  rw [SymRL] at hs
  cases i with
  |zero=>simp at h;subst h;exact hs.1
  |succ i=>exact SymRL.at hs.2 (by simpa using h)
theorem SymRL.of:∀ {l:List Tr},(∀ (i:Nat) t,l[i]?=some t→SymR t)→SymRL l
 | [],_=>by rw [SymRL];trivial
 |x::xs,h=>by
  rw [SymRL]
  exact⟨h 0 x (by simp),SymRL.of fun i t hi=>h (i+1) t (by simpa using hi)⟩
theorem TSmL.at:∀ {l:List Tr},TSmL l→ ∀ {i:Nat} {t:Tr},l[i]?=some t→TSm t
 | [],_,i,t,h=>by simp at h
 |x::xs,hs,i,t,h=>by
  rw [TSmL] at hs
  cases i with
  |zero=>simp at h;subst h;exact hs.1
  |succ i=>exact TSmL.at hs.2 (by simpa using h)
theorem TSmL.of:∀ {l:List Tr},(∀ (i:Nat) t,l[i]?=some t→TSm t)→TSmL l
 | [],_=>by rw [TSmL];trivial
 |x::xs,h=>by
  rw [TSmL]
  exact⟨h 0 x (by simp),TSmL.of fun i t hi=>h (i+1) t (by simpa using hi)⟩
theorem treeC_two (t:Tr):(treeC t).length=2:=by cases t with|node s l=>rw [treeC];rfl
theorem kidsC_len:∀ l:List Tr,(kidsC l).length=l.length*2
 | []=>by rw [kidsC];rfl
 |t::ts=>by rw [kidsC,List.length_append,treeC_two,kidsC_len ts,List.length_cons];omega
theorem treeC_pers (t:Tr):persL (treeC t)=true:=by cases t with|node s l=>rw [treeC];rfl
theorem kidsC_pers:∀ l:List Tr,persL (kidsC l)=true
 | []=>by rw [kidsC];rfl
 |t::ts=>by rw [kidsC];exact persL_append (treeC_pers t) (kidsC_pers ts)
theorem treeD_pers (t:Tr):pers (treeD t)=true:=treeC_pers t
instance (l:List Tr):PersL (kidsC l):=⟨kidsC_pers l⟩
instance (t:Tr):PersL (treeC t):=⟨treeC_pers t⟩
instance (t:Tr):PersD (treeD t):=⟨treeD_pers t⟩
theorem oneL_app:∀ {l r:List D},oneL l=true→oneL r=true→oneL (l++r)=true
 | [],r,_,h=>h
 |d::ds,r,h1,h2=>by
  simp only [oneL,Bool.and_eq_true] at h1
  simp only [List.cons_append,oneL,Bool.and_eq_true]
  exact⟨h1.1,oneL_app h1.2 h2⟩
end Go.Rt
namespace Go.Rt
open Go
theorem cmpI_self (a:Int):cmpI a a=0:=by unfold cmpI;rw [if_neg (by omega),if_neg (by omega)]
theorem cmpI_swap (a b:Int):cmpI b a= - cmpI a b:=by
 unfold cmpI
 rcases Int.lt_trichotomy a b with h|h|h
 ·rw [if_neg (by omega),if_pos (by omega),if_pos h];rfl
 ·subst h;rw [if_neg (by omega),if_neg (by omega)];rfl
 ·rw [if_pos h,if_neg (by omega),if_pos (by omega)]
theorem cmpI_lt {a b:Int}:cmpI a b<0↔a<b:=by
 unfold cmpI
 split
 ·constructor <;> intro h <;> omega
 ·split
  ·constructor <;> intro h <;> omega
  ·constructor <;> intro h <;> omega
theorem cmpI_zero {a b:Int}:cmpI a b=0↔a=b:=by
 unfold cmpI
 split
 ·constructor <;> intro h <;> omega
 ·split
  ·constructor <;> intro h <;> omega
  ·constructor <;> intro h <;> omega
theorem sizeW_node (s:Int) (l:List Tr):sizeW (.node s l)=sizeL 1 l:=by rw [sizeW]
theorem cmpT_node (s s':Int) (l l':List Tr):cmpT (.node s l) (.node s' l')=if cmpI (sizeL 1 l) (sizeL 1 l')≠0 then cmpI (sizeL 1 l) (sizeL 1 l') else if cmpI s s'≠0 then cmpI s s' else if cmpI l.length l'.length≠0 then cmpI l.length l'.length else cmpL l l':=by rw [cmpT]
theorem cmpL_cons (t u:Tr) (ts us:List Tr):cmpL (t::ts) (u::us)=if cmpT t u≠0 then cmpT t u else cmpL ts us:=by rw [cmpL]
theorem cmpL_nil (us:List Tr):cmpL [] us=0:=by rw [cmpL];rintro t ts u us h;cases h
theorem cmpL_nil2 (ts:List Tr):cmpL ts []=0:=by rw [cmpL];rintro t ts u us _ h;cases h
mutual
theorem cmpT_swap:∀ t u:Tr,cmpT u t= - cmpT t u
 | .node s l,.node s' l'=>by
   rw [cmpT_node,cmpT_node,cmpI_swap (sizeL 1 l) (sizeL 1 l'),cmpI_swap s s',cmpI_swap l.length l'.length,cmpL_swap l l']
   by_cases h1:cmpI (sizeL 1 l) (sizeL 1 l')=0
   ·by_cases h2:cmpI s s'=0
    ·   by_cases h3:cmpI l.length l'.length=0
        ·simp [h1,h2,h3]
        ·simp [h1,h2,h3]
    ·simp [h1,h2]
   ·simp [h1]
theorem cmpL_swap:∀ l l':List Tr,cmpL l' l= - cmpL l l'
 | [],l'=>by rw [cmpL_nil2,cmpL_nil];rfl
 |t::ts,[]=>by rw [cmpL_nil2,cmpL_nil];rfl
 |t::ts,u::us=>by
  rw [cmpL_cons,cmpL_cons,cmpT_swap t u,cmpL_swap ts us]
  by_cases h:cmpT t u=0
  ·simp [h]
  ·simp [h]
end
mutual
theorem cmpT_self:∀ t:Tr,cmpT t t=0
 | .node s l=>by rw [cmpT_node,cmpI_self,cmpI_self,cmpI_self];simp [cmpL_self l]
theorem cmpL_self:∀ l:List Tr,cmpL l l=0
 | []=>cmpL_nil _
 |t::ts=>by rw [cmpL_cons,cmpT_self t];simp [cmpL_self ts]
end
mutual
theorem cmpT_eq:∀ t u:Tr,cmpT t u=0→t=u
 | .node s l,.node s' l',h=>by
   rw [cmpT_node] at h
   by_cases h1:cmpI (sizeL 1 l) (sizeL 1 l')=0
   ·by_cases h2:cmpI s s'=0
    ·   by_cases h3:cmpI l.length l'.length=0
        ·simp only [h1,h2,h3,ne_eq,not_true_eq_false,if_false] at h
         have h3:=cmpI_zero.1 h3
         rw [cmpI_zero.1 h2,cmpL_eq l l' (by omega) h]
        ·simp [h1,h2,h3] at h
    ·simp [h1,h2] at h
   ·simp [h1] at h
theorem cmpL_eq:∀ l l':List Tr,l.length=l'.length→cmpL l l'=0→l=l'
 | [],[],_,_=>rfl
 | [],_::_,h,_=>by cases h
 |_::_,[],h,_=>by cases h
 |t::ts,u::us,hl,h=>by
  rw [cmpL_cons] at h
  by_cases h1:cmpT t u=0
  ·simp only [h1,ne_eq,not_true_eq_false,if_false] at h
   rw [cmpT_eq t u h1,cmpL_eq ts us (by simpa using hl) h]
  ·simp [h1] at h
end
theorem cmpT_lt {s s':Int} {l l':List Tr}:cmpT (.node s l) (.node s' l')<0↔sizeL 1 l<sizeL 1 l'∨(sizeL 1 l=sizeL 1 l'∧(s<s'∨(s=s'∧(l.length<l'.length∨(l.length=l'.length∧cmpL l l'<0))))):=by
 rw [cmpT_node]
 by_cases h1:cmpI (sizeL 1 l) (sizeL 1 l')=0
 ·have   e1:=cmpI_zero.1 h1
  by_cases h2:cmpI s s'=0
  ·have  e2:=cmpI_zero.1 h2
   by_cases h3:cmpI l.length l'.length=0
   ·    have e3:=cmpI_zero.1 h3
        simp only [h1,h2,h3,ne_eq,not_true_eq_false,if_false]
        omega
   ·    have e3:=mt cmpI_zero.2 h3
        simp only [h1,h2,h3,ne_eq,not_true_eq_false,if_false,not_false_eq_true,if_true]
        rw [cmpI_lt]
        omega
  ·have e2:=mt cmpI_zero.2 h2
   simp only [h1,h2,ne_eq,not_true_eq_false,if_false,not_false_eq_true,if_true]
   rw [cmpI_lt]
   omega
 ·have e1:=mt cmpI_zero.2 h1
  simp only [h1,ne_eq,not_false_eq_true,if_true]
  rw [cmpI_lt]
  omega
theorem cmpL_lt {t u:Tr} {ts us:List Tr}:cmpL (t::ts) (u::us)<0↔cmpT t u<0∨(t=u∧cmpL ts us<0):=by
 rw [cmpL_cons]
 by_cases h:cmpT t u=0
 ·have e:=cmpT_eq t u h
  subst e
  simp [h]
 ·have e:t≠u:=fun e=>h (by rw [e];exact cmpT_self u)
  simp [h,e]
mutual
theorem cmpT_trans:∀ t u v:Tr,cmpT t u<0→cmpT u v<0→cmpT t v<0
 | .node s l,.node s' l',.node s2 l2,h1,h2=>by
   rw [cmpT_lt] at h1 h2 ⊢
   have ih:=cmpL_trans l l' l2
   omega
theorem cmpL_trans:∀ l l' l2:List Tr,l.length=l'.length→l'.length=l2.length→cmpL l l'<0→cmpL l' l2<0→cmpL l l2<0
 | [],l',l2,_,_,h,_=>by rw [cmpL_nil] at h;omega
 |t::ts,[],_,h,_,_,_=>by cases h
 |_::_,_::_,[],_,h,_,_=>by cases h
 |t::ts,u::us,v::vs,e1,e2,h1,h2=>by
  rw [cmpL_lt] at h1 h2 ⊢
  rcases h1 with h1| ⟨rfl,h1⟩
  ·rcases h2 with h2| ⟨rfl,h2⟩
   ·exact .inl (cmpT_trans t u v h1 h2)
   ·exact .inl h1
  ·rcases h2 with h2| ⟨rfl,h2⟩
   ·exact .inl h2
   ·exact .inr ⟨rfl,cmpL_trans ts us vs (by simpa using e1) (by simpa using e2) h1 h2⟩
end
mutual
def sizeT:Tr→Nat
 | .node _ l=>sizeTL l+1
def sizeTL:List Tr→Nat
 | []=>0
 |t::ts=>sizeT t+sizeTL ts
end
theorem sizeT_node (s:Int) (l:List Tr):sizeT (.node s l)=sizeTL l+1:=by rw [sizeT]
theorem sizeTL_cons (t:Tr) (ts:List Tr):sizeTL (t::ts)=sizeT t+sizeTL ts:=by rw [sizeTL]
theorem sizeT_pos (t:Tr):0<sizeT t:=by cases t;rw [sizeT];omega
theorem sizeTL_at:∀ {l:List Tr} {i:Nat} {t:Tr},l[i]?=some t→sizeT t≤sizeTL l
 | [],i,t,h=>by simp at h
 |x::xs,i,t,h=>by
  rw [sizeTL]
  cases i with
  |zero=>simp at h;subst h;omega
  |succ i=>have:=sizeTL_at (l:=xs) (i:=i) (t:=t) (by simpa using h);omega
theorem w64i_in {a:Int} (h1: -9223372036854775808≤a) (h2:a≤9223372036854775807):w64i a=a:=by unfold w64i;rw [IntKind.wrap_i64];omega
mutual
theorem sizeW_eq:∀ t:Tr,sizeT t≤4611686018427387904→sizeW t=sizeT t
 | .node s l,h=>by
   rw [sizeT_node] at h
   rw [sizeW_node,sizeT_node,sizeL_eq l 1 (by omega) (by omega) (by omega)]
   omega
theorem sizeL_eq:∀ (l:List Tr) (n:Int),0≤n→n+sizeTL l≤4611686018427387905→sizeTL l≤4611686018427387904→sizeL n l=n+sizeTL l
 | [],n,_,_,_=>by rw [sizeL,sizeTL];omega
 |t::ts,n,h0,h,h2=>by
  rw [sizeTL] at h h2 ⊢
  rw [sizeL,sizeW_eq t (by omega),w64i_in (by omega) (by omega),sizeL_eq ts _ (by omega) (by omega) (by omega)]
  omega
end
end Go.Rt
namespace Go.Mn
open Go Go.Rt
structure Au where
 ranks:List Int
 final:List Bool
 to:List (List Int)
structure AlphaOk (r:List Int):Prop where
 lo:1≤r.length
 hi:r.length≤4096
 rng:∀ x∈r,0≤x∧x≤2
theorem alphaE_ok {r:List Int} (h:alphaE r=0):AlphaOk r:=by
 unfold alphaE at h
 split at h
 ·cases h
 ·split at h
  ·cases h
  ·rename_i h1 h2
   refine⟨by omega,by omega,fun x hx=>?_⟩
   have:¬ (x<0∨2<x):=fun e=>h2 ⟨x,hx,e⟩
   omega
def wideN (k:Int) (n:Nat):Nat:=n ^ k.toNat
noncomputable def chk (A:Au):Nat:=
 open Classical in
 if alphaE A.ranks≠0 then alphaE A.ranks
 else if A.final.length<1∨512<A.final.length then 2
 else if A.to.length≠A.ranks.length then 3
 else if (∃ (i:Nat) (l:List Int) (k:Int),A.to[i]?=some l∧A.ranks[i]?=some k∧l.length≠wideN k A.final.length) then 3
 else if (∃ l∈A.to,∃ s∈l,s<0∨(A.final.length:Int)≤s) then 2 else 0
structure AuOk (A:Au):Prop where
 alpha:AlphaOk A.ranks
 lo:1≤A.final.length
 hi:A.final.length≤512
 len:A.to.length=A.ranks.length
 wide:∀ (i:Nat) (l:List Int) (k:Int),A.to[i]?=some l→A.ranks[i]?=some k→l.length=wideN k A.final.length
 rng:∀ l∈A.to,∀ s∈l,0≤s∧s<(A.final.length:Int)
theorem chk_ok {A:Au} (h:chk A=0):AuOk A:=by
  unfold chk at h
  split at h
  ·rename_i h0;exact absurd h h0
  · rename_i h0
    have h0:alphaE A.ranks=0:=by omega
    split at h
    ·cases h
    · split at h
      ·cases h
      · split at h
        ·cases h
        · split at h
          ·cases h
          · rename_i h1 h2 h3 h4
            refine⟨alphaE_ok h0,by omega,by omega,by omega,fun i l k q1 q2=>?_,fun l hl s hs=>?_⟩
            ·exact Classical.byContradiction fun e=>h3 ⟨i,l,k,q1,q2,e⟩
            · have:¬ (s<0∨(A.final.length:Int)≤s):=fun e=>h4 ⟨l,hl,s,hs,e⟩
              omega
def placeOf (n:Nat) (l:List Int):Int:=l.foldl (fun (p s:Int)=>p*(n:Int)+s) 0
def atI (A:Au) (s:Int) (l:List Int):Int:=(A.to.getD s.toNat []).getD (placeOf A.final.length l).toNat 0
structure Fits (A:Au) (s:Int) (l:List Int):Prop where
 s0:0≤s
 s1:s<A.ranks.length
 len:(l.length:Int)=A.ranks.getD s.toNat 0
 rng:∀ x∈l,0≤x∧x<(A.final.length:Int)
theorem placeOf_snoc (n:Nat) (l:List Int) (x:Int):placeOf n (l++ [x])=placeOf n l*n+x:=by simp [placeOf]
theorem place_from {n:Nat}:∀ (l:List Int) (p:Int) (q:Nat),0≤p→p<q→(∀ x∈l,0≤x∧x<(n:Int))→0≤l.foldl (fun (p s:Int)=>p*(n:Int)+s) p∧l.foldl (fun (p s:Int)=>p*(n:Int)+s) p<((q*n ^ l.length:Nat):Int)
 | [],p,q,h1,h2,_=>by simpa using ⟨h1,h2⟩
 |x::l,p,q,h1,h2,h=>by
  obtain⟨h3,h4⟩:=h x (by simp)
  have h5:0≤p*n:=Int.mul_nonneg h1 (by omega)
  have h6:p*n+n≤(q:Int)*n:=by
   have:(p+1)*n≤(q:Int)*n:=Int.mul_le_mul_of_nonneg_right (by omega) (by omega)
   rw [Int.add_mul,Int.one_mul] at this
   exact this
  have:=place_from l (p*n+x) (q*n) (by omega) (by rw [Int.natCast_mul];omega) (fun y hy=>h y (by simp [hy]))
  rw [List.foldl_cons,List.length_cons,Nat.pow_succ,show q*(n ^ l.length*n)=q*n*n ^ l.length by rw [Nat.mul_comm (n ^ l.length) n,Nat.mul_assoc]]
  exact this
theorem placeOf_lt {n:Nat} (l:List Int) (h:∀ x∈l,0≤x∧x<(n:Int)):0≤placeOf n l∧placeOf n l<((n ^ l.length:Nat):Int):=by
 have:=place_from l 0 1 (by omega) (by omega) h
 simpa [placeOf] using this
theorem place_bd {n:Nat} {l:List Int} (hn:n≤512) (h:∀ x∈l,0≤x∧x<(n:Int)) (hl:l.length≤2) {j:Nat} (hj:j<l.length):0≤placeOf n (l.take j)∧placeOf n (l.take j)≤512∧0≤placeOf n (l.take j)*n∧placeOf n (l.take j)*n≤262144:=by
 have h1:=placeOf_lt (n:=n) (l.take j) (fun x hx=>h x (List.mem_of_mem_take hx))
 have hlen:(l.take j).length=j:=by simp;omega
 rw [hlen] at h1
 have hle:placeOf n (l.take j)≤512:=by
  rcases (show j=0∨j=1 by omega) with rfl|rfl
  ·have:=h1.2;rw [Nat.pow_zero] at this;omega
  ·have:=h1.2;rw [Nat.pow_one] at this;omega
 refine⟨h1.1,hle,Int.mul_nonneg h1.1 (by omega),?_⟩
 have:placeOf n (l.take j)*n≤512*n:=Int.mul_le_mul_of_nonneg_right hle (by omega)
 omega
theorem placeOf_take {n:Nat} {l:List Int} {j:Nat} {x:Int} (h:l[j]?=some x):placeOf n (l.take (j+1))=placeOf n (l.take j)*n+x:=by
 obtain⟨hk,rfl⟩:=List.getElem?_eq_some_iff.1 h
 rw [List.take_succ_eq_append_getElem hk,placeOf_snoc]
theorem Fits.at {A:Au} (hA:AuOk A) {s:Int} {l:List Int} (h:Fits A s l):
  ∃ (i p:Nat) (row:List Int) (q:Int),s=i∧i<A.to.length∧A.to[i]?=some row∧placeOf A.final.length l=p∧p<row.length∧row[p]?=some q∧atI A s l=q∧0≤q∧q<A.final.length∧l.length≤2:=by
 obtain⟨i,rfl⟩:=Int.eq_ofNat_of_zero_le h.s0
 have hi:i<A.ranks.length:=by have:=h.s1;omega
 have hi2:i<A.to.length:=by rw [hA.len];exact hi
 have hk:A.ranks[i]?=some A.ranks[i]:=by simp
 have hrow:A.to[i]?=some A.to[i]:=by simp
 have hw:=hA.wide i _ _ hrow hk
 have hlen:=h.len
 simp only [Int.toNat_natCast,List.getD,hk,Option.getD_some] at hlen
 have hr:=hA.alpha.rng _ (List.getElem_mem hi)
 obtain⟨h1,h2⟩:=placeOf_lt (n:=A.final.length) l h.rng
 obtain⟨p,hp⟩:=Int.eq_ofNat_of_zero_le h1
 have hpl:p<A.to[i].length:=by
  rw [hw,wideN]
  have:(A.ranks[i]).toNat=l.length:=by omega
  rw [this];omega
 have hq:A.to[i][p]?=some A.to[i][p]:=by simp
 have hrg:=hA.rng _ (List.getElem_mem hi2) _ (List.getElem_mem hpl)
 exact⟨i,p,_,_,rfl,hi2,hrow,hp,hpl,hq,by simp [atI,List.getD,hrow,hp,hq],hrg.1,hrg.2,by omega⟩
def digs (n:Nat):Nat→Nat→List Int
 |0,_=> []
 |k+1,p=>digs n k (p / n)++ [((p % n:Nat):Int)]
theorem digs_len (n:Nat):∀ k p,(digs n k p).length=k
 |0,_=>rfl
 |k+1,p=>by simp [digs,digs_len n k]
theorem digs_rng {n:Nat} (hn:0<n):∀ k p,∀ x∈digs n k p,0≤x∧x<(n:Int)
 |0,_,x,h=>by simp [digs] at h
 |k+1,p,x,h=>by
  simp only [digs,List.mem_append,List.mem_singleton] at h
  rcases h with h|rfl
  ·exact digs_rng hn k _ x h
  ·have:=Nat.mod_lt p hn;omega
theorem place_digs {n:Nat} (hn:0<n):∀ k p,p<n ^ k→placeOf n (digs n k p)=p
 |0,p,h=>by simp at h;subst h;rfl
 |k+1,p,h=>by
  rw [digs,placeOf_snoc,place_digs hn k (p / n) (by rw [Nat.pow_succ] at h;exact Nat.div_lt_of_lt_mul (by rw [Nat.mul_comm];exact h))]
  rw [← Int.natCast_mul,← Int.natCast_add,Nat.mul_comm]
  exact congrArg _ (Nat.div_add_mod p n)
def tableOf (n:Nat) (T:Int→List Int→Int) (i:Nat) (k:Int):List Int:=(List.range (wideN k n)).map fun p=>T i (digs n k.toNat p)
def tablesOf (n:Nat) (T:Int→List Int→Int) (rs:List Int):List (List Int):=(List.range rs.length).map fun i=>tableOf n T i (rs.getD i 0)
def madeA (rs:List Int) (n:Nat) (T:Int→List Int→Int) (F:Nat→Bool):Au:=⟨rs,(List.range n).map F,tablesOf n T rs⟩
theorem wideN_le {k:Int} {n:Nat} (hk:k≤2) (hn:n≤512):wideN k n≤262144:=by
 have h:k.toNat≤2:=by omega
 unfold wideN
 rcases (show k.toNat=0∨k.toNat=1∨k.toNat=2 by omega) with e|e|e <;> rw [e]
 ·rw [Nat.pow_zero];omega
 ·rw [Nat.pow_one];omega
 ·rw [Nat.pow_succ,Nat.pow_one];exact Nat.mul_le_mul hn hn
def hasI (l:List Int) (x:Int):Int:=if x∈l then (l.idxOf x:Nat) else -1
theorem hasI_mem {l:List Int} {x:Int} (h:x∈l):hasI l x=(l.idxOf x:Nat):=if_pos h
theorem hasI_no {l:List Int} {x:Int} (h:x ∉ l):hasI l x= -1:=if_neg h
theorem hasI_nonneg {l:List Int} {x:Int}:0≤hasI l x↔x∈l:=by
 unfold hasI;split <;> rename_i h
 ·simp [h]
 ·simp [h]
def keptT (A:Au) (l:List Int) (i:Int) (ds:List Int):Int:=hasI l (atI A i (ds.map fun d=>l.getD d.toNat 0))
def keptF (A:Au) (l:List Int) (s:Nat):Bool:=A.final.getD (l.getD s 0).toNat false
def keptA (A:Au) (l:List Int):Au:=madeA A.ranks l.length (keptT A l) (keptF A l)
structure ShutL (A:Au) (l:List Int):Prop where
 pos:0<l.length
 hi:l.length≤512
 nd:l.Nodup
 rng:∀ s∈l,0≤s∧s<(A.final.length:Int)
 shut:∀ (i:Nat) (k:Int) (ds:List Int),A.ranks[i]?=some k→(ds.length:Int)=k→(∀ d∈ds,0≤d∧d<(l.length:Int))→atI A i (ds.map fun d=>l.getD d.toNat 0)∈l
theorem getD_mem {l:List Int} {d:Int} (h:0≤d∧d<(l.length:Int)):l.getD d.toNat 0∈l:=by
 have:d.toNat<l.length:=by omega
 simp [List.getD,this]
theorem ShutL.fits {A:Au} {l:List Int} (h:ShutL A l) {i:Nat} {k:Int} {ds:List Int} (hi:A.ranks[i]?=some k) (hl:(ds.length:Int)=k) (hd:∀ d∈ds,0≤d∧d<(l.length:Int)):Fits A i (ds.map fun d=>l.getD d.toNat 0):=by
 refine⟨by omega,?_,?_,fun x hx=>?_⟩
 ·have:=(List.getElem?_eq_some_iff.1 hi).1;omega
 ·simp [List.getD,hi,hl]
 ·obtain⟨d,hd1,rfl⟩:=List.mem_map.1 hx
  exact h.rng _ (getD_mem (hd d hd1))
theorem idx_at:∀ (l:List Int) (j:Nat) (x:Int),l.Nodup→l[j]?=some x→l.idxOf x=j
 | [],j,x,_,h=>by simp at h
 |a::l,0,x,_,h=>by simp at h;subst h;simp
 |a::l,j+1,x,hn,h=>by
  rw [List.nodup_cons] at hn
  simp only [List.getElem?_cons_succ] at h
  have hx:x∈l:=List.mem_of_getElem? h
  have hne:a≠x:=fun e=>hn.1 (e ▸ hx)
  rw [List.idxOf_cons,idx_at l j x hn.2 h]
  have:(a == x)=false:=by simpa using hne
  rw [this];rfl
def ixL (n:Nat) (l:List Int):List Int:=(List.range n).map fun (i:Nat)=>if (i:Int)∈l then ((l.idxOf (i:Int):Nat):Int) else 0
theorem ixL_at {n:Nat} {l:List Int} {x:Int} (h:x∈l) (h0:0≤x) (h1:x<(n:Int)):(ixL n l).getD x.toNat 0=hasI l x:=by
 obtain⟨m,rfl⟩:=Int.eq_ofNat_of_zero_le h0
 have hm:m<n:=by omega
 simp [ixL,List.getD,hm,hasI,h]
structure PermOk (n:Nat) (l:List Int):Prop where
 len:l.length=n
 nd:l.Nodup
 rng:∀ s∈l,0≤s∧s<(n:Int)
theorem pigeon_le:∀ (n:Nat) (l:List Int),(∀ i:Nat,i<n→(i:Int)∈l)→n≤l.length
 |0,l,_=>Nat.zero_le _
 |n+1,l,h=>by
  have hn:=h n (by omega)
  have h1:=pigeon_le n (l.erase (n:Int)) (fun i hi=>(List.mem_erase_of_ne (by omega)).2 (h i (by omega)))
  rw [List.length_erase_of_mem hn] at h1
  have:=List.length_pos_of_mem hn
  omega
theorem pigeon_few:∀ (n:Nat) (l:List Int),l.Nodup→(∀ s∈l,0≤s∧s<(n:Int))→l.length≤n
 |0,l,_,h=>by
  cases l with
  |nil=>simp
  |cons a l=>have:=h a (by simp);omega
 |n+    1,l,hd,h=>by
  by_cases hn:(n:Int)∈l
  ·have  hp:=List.perm_cons_erase hn
   have hd2:=hp.nodup_iff.1 hd
   rw [List.nodup_cons] at hd2
   have  h1:=pigeon_few n (l.erase (n:Int)) hd2.2 (fun s hs=>by
        have h2:=h s (List.mem_of_mem_erase hs)
        have h3:s≠(n:Int):=fun e=>hd2.1 (e ▸ hs)
        omega)
   rw [List.length_erase_of_mem hn] at h1
   omega
  ·have  h1:=pigeon_few n l hd (fun s hs=>by
        have h2:=h s hs
        have h3:s≠(n:Int):=fun e=>hn (e ▸ hs)
        omega)
   omega
def A00:Au:=⟨[],[],[]⟩
def notA (A:Au):Au:=⟨A.ranks,A.final.map (!·),A.to⟩
theorem table_at {A:Au} (hok:AuOk A) {i:Nat} {row:List Int} {k:Int} (hr:A.to[i]?=some row) (hk:A.ranks[i]?=some k):tableOf A.final.length (atI A) i k=row:=by
 have hw:=hok.wide i row k hr hk
 apply List.ext_getElem?
 intro p
 by_cases hp:p<wideN k A.final.length
 ·have h1:placeOf A.final.length (digs A.final.length k.toNat p)=p:=place_digs (by have:=hok.lo;omega) _ _ hp
  have h2:p<row.length:=by rw [hw];exact hp
  simp [tableOf,hp,atI,List.getD,hr,h1,h2]
 ·rw [List.getElem?_eq_none (by simp [tableOf];omega),List.getElem?_eq_none (by rw [hw];omega)]
end Go.Mn
namespace Go.Mn
open Go Go.Rt
mutual
def stateT (A:Au):Tr→Int
 | .node s l=>atI A s (stateL A l)
def stateL (A:Au):List Tr→List Int
 | []=> []
 |t::ts=>stateT A t::stateL A ts
end
theorem stateT_node (A:Au) (s:Int) (l:List Tr):stateT A (.node s l)=atI A s (stateL A l):=by rw [stateT]
theorem stateL_map (A:Au):∀ l:List Tr,stateL A l=l.map (stateT A)
 | []=>by rw [stateL];rfl
 |t::ts=>by rw [stateL,stateL_map A ts];rfl
theorem nodes_good {r:List Int} {s:Int} {l:List Tr} (h:nodesE r (.node s l)=0):0≤s∧s<r.length∧(l.length:Int)=r.getD s.toNat 0∧nodesL r l=0:=by
 rw [nodesE] at h
 split at h
 ·cases h
 ·split at h
  ·cases h
  ·rename_i h1 h2
   exact⟨by omega,by omega,by omega,h⟩
theorem nodesL_good {r:List Int} {t:Tr} {ts:List Tr} (h:nodesL r (t::ts)=0):nodesE r t=0∧nodesL r ts=0:=by
 rw [nodesL] at h
 split at h
 ·rename_i h1;exact absurd h h1
 ·rename_i h1;exact⟨by omega,h⟩
theorem nodesL_mem {r:List Int}:∀ {l:List Tr},nodesL r l=0→ ∀ t∈l,nodesE r t=0
 | [],_,t,h=>by cases h
 |u::us,hl,t,h=>by
  obtain⟨h1,h2⟩:=nodesL_good hl
  rcases List.mem_cons.1 h with rfl|h
  ·exact h1
  ·exact nodesL_mem h2 t h
mutual
theorem state_rng {A:Au} (hA:AuOk A):∀ t:Tr,nodesE A.ranks t=0→0≤stateT A t∧stateT A t<(A.final.length:Int)
 | .node s l,h=>by
   obtain⟨h1,h2,h3,h4⟩:=nodes_good h
   rw [stateT]
   have hf:Fits A s (stateL A l):=⟨h1,h2,by rw [stateL_map,List.length_map];exact h3,stateL_rng hA l h4⟩
   obtain⟨i,p,row,q,rfl,hi,hrow,hp,hpl,hq,hat,hq0,hq1,hl2⟩:=hf.at hA
   rw [hat]
   exact⟨hq0,hq1⟩
theorem stateL_rng {A:Au} (hA:AuOk A):∀ l:List Tr,nodesL A.ranks l=0→ ∀ x∈stateL A l,0≤x∧x<(A.final.length:Int)
 | [],_,x,hx=>by rw [stateL] at hx;cases hx
 |t::ts,h,x,hx=>by
  obtain⟨h1,h2⟩:=nodesL_good h
  rw [stateL] at hx
  rcases List.mem_cons.1 hx with rfl|hx
  ·exact state_rng hA t h1
  ·exact stateL_rng hA ts h2 x hx
end
theorem state_fits {A:Au} (hA:AuOk A) {s:Int} {l:List Tr} (h:nodesE A.ranks (.node s l)=0):Fits A s (stateL A l):=by
 obtain⟨h1,h2,h3,h4⟩:=nodes_good h
 exact⟨h1,h2,by rw [stateL_map,List.length_map];exact h3,stateL_rng hA l h4⟩
theorem chk_alphaE {A:Au} (h:chk A=0):alphaE A.ranks=0:=by
 unfold chk at h
 split at h
 ·rename_i h0;exact absurd h h0
 ·omega
theorem chk_of {A:Au} (ha:alphaE A.ranks=0) (h:AuOk A):chk A=0:=by
 have h1:=h.lo
 have h2:=h.hi
 unfold chk
 rw [if_neg (by omega),if_neg (by omega),if_neg (by simp [h.len]),if_neg,if_neg]
 ·rintro⟨l,hl,s,hs,e⟩
  have:=h.rng l hl s hs
  omega
 ·rintro⟨i,l,k,q1,q2,e⟩
  exact e (h.wide i l k q1 q2)
theorem place_lt {n:Nat}:∀ (l:List Int),(∀ x∈l,0≤x∧x<(n:Int))→0≤placeOf n l∧placeOf n l<((n ^ l.length:Nat):Int):=fun l h=>by
 have:=place_from (n:=n) l 0 1 (by omega) (by omega) h
 refine⟨this.1,?_⟩
 have h2:=this.2
 rw [Nat.one_mul] at h2
 exact h2
theorem digs_place {n:Nat} (hn:0<n):∀ (k:Nat) (l:List Int),l.length=k→(∀ x∈l,0≤x∧x<(n:Int))→digs n k (placeOf n l).toNat=l
 |0,l,hl,_=>by rw [List.eq_nil_of_length_eq_zero hl];rfl
 |k+1,l,hl,h=>by
  have hne:l≠ []:=fun e=>by rw [e] at hl;simp at hl
  obtain⟨m,x,rfl⟩:∃ m x,l=m++ [x]:=⟨l.dropLast,l.getLast hne,(List.dropLast_concat_getLast hne).symm⟩
  have hm:m.length=k:=by simpa using hl
  have hx:=h x (by simp)
  have hml:∀ y∈m,0≤y∧y<(n:Int):=fun y hy=>h y (by simp [hy])
  have hp:=place_lt m hml
  have ih:=digs_place hn k m hm hml
  obtain⟨p,hpe⟩:=Int.eq_ofNat_of_zero_le hp.1
  obtain⟨x',rfl⟩:=Int.eq_ofNat_of_zero_le hx.1
  have hx':x'<n:=by omega
  have e1:(placeOf n (m++ [(x':Int)])).toNat=p*n+x':=by
   rw [placeOf_snoc,hpe,← Int.natCast_mul,← Int.natCast_add,Int.toNat_natCast]
  rw [e1,digs]
  have e2:(p*n+x') / n=p:=by rw [Nat.mul_comm,Nat.mul_add_div hn,Nat.div_eq_of_lt hx',Nat.add_zero]
  have e3:(p*n+x') % n=x':=by rw [Nat.mul_comm,Nat.mul_add_mod,Nat.mod_eq_of_lt hx']
  rw [e2,e3]
  rw [hpe,Int.toNat_natCast] at ih
  rw [ih]
theorem made_final_len (rs:List Int) (n:Nat) (T:Int→List Int→Int) (F:Nat→Bool):(madeA rs n T F).final.length=n:=by simp [madeA]
theorem made_to_len (rs:List Int) (n:Nat) (T:Int→List Int→Int) (F:Nat→Bool):(madeA rs n T F).to.length=rs.length:=by simp [madeA,tablesOf]
theorem made_to_at {rs:List Int} {n:Nat} {T:Int→List Int→Int} {F:Nat→Bool} {i:Nat} {k:Int} (h:rs[i]?=some k):(madeA rs n T F).to[i]?=some (tableOf n T i k):=by
 have hi:=(List.getElem?_eq_some_iff.1 h).1
 show (tablesOf n T rs)[i]?=_
 unfold tablesOf
 rw [List.getElem?_map,List.getElem?_range hi]
 simp [List.getD,h]
theorem made_ok {rs:List Int} {n:Nat} {T:Int→List Int→Int} {F:Nat→Bool} (ha:alphaE rs=0) (h1:1≤n) (h2:n≤512)
  (hT:∀ (i k p:Nat),rs[i]?=some ((k:Nat):Int)→p<wideN k n→0≤T i (digs n k p)∧T i (digs n k p)<(n:Int)):AuOk (madeA rs n T F):=by
 have hal:=alphaE_ok ha
 refine⟨hal,by rw [made_final_len];exact h1,by rw [made_final_len];exact h2,made_to_len rs n T F,fun i l k q1 q2=>?_,fun l hl s hs=>?_⟩
 ·have q2:rs[i]?=some k:=q2
  rw [made_to_at q2] at q1
  cases q1
  rw [made_final_len]
  simp [tableOf]
 ·rw [made_final_len]
  obtain⟨i,hi,rfl⟩:=List.mem_iff_getElem.1 hl
  have hir:i<rs.length:=by rw [made_to_len] at hi;exact hi
  have q2:rs[i]?=some rs[i]:=by simp
  have q3:=made_to_at (n:=n) (T:=T) (F:=F) q2
  rw [List.getElem?_eq_getElem hi] at q3
  rw [Option.some.inj q3] at hs
  have hk:=hal.rng rs[i] (by simp)
  obtain⟨k,hke⟩:=Int.eq_ofNat_of_zero_le hk.1
  unfold tableOf at hs
  obtain⟨p,hp,rfl⟩:=List.mem_map.1 hs
  rw [hke] at hp ⊢
  rw [Int.toNat_natCast]
  exact hT i k p (by rw [q2,hke]) (List.mem_range.1 hp)
theorem at_made {rs:List Int} {n:Nat} {T:Int→List Int→Int} {F:Nat→Bool} (hn:0<n) {s:Int} {l:List Int} (hf:Fits (madeA rs n T F) s l):atI (madeA rs n T F) s l=T s l:=by
 obtain⟨i,rfl⟩:=Int.eq_ofNat_of_zero_le hf.s0
 have hi:i<rs.length:=by have:=hf.s1;show i<(madeA rs n T F).ranks.length;omega
 have hr:rs[i]?=some rs[i]:=by simp
 have hlen:(l.length:Int)=rs[i]:=by
  have:=hf.len
  rw [Int.toNat_natCast] at this
  rw [this]
  show rs.getD i 0=_
  simp [List.getD,hi]
 have hrg:=hf.rng
 rw [made_final_len] at hrg
 have hpl:=place_lt l hrg
 unfold atI
 have h1:(madeA rs n T F).to.getD i []=tableOf n T i rs[i]:=by rw [List.getD_eq_getElem?_getD,made_to_at hr,Option.getD_some]
 rw [made_final_len,Int.toNat_natCast,h1]
 unfold tableOf
 have hw:wideN rs[i] n=n ^ l.length:=by unfold wideN;rw [← hlen,Int.toNat_natCast]
 have hlt:(placeOf n l).toNat<wideN rs[i] n:=by rw [hw];omega
 rw [List.getD_eq_getElem?_getD,List.getElem?_map,List.getElem?_range hlt,Option.map_some,Option.getD_some]
 rw [← hlen,Int.toNat_natCast,digs_place hn l.length l rfl hrg]
theorem at_not (A:Au) (s:Int) (l:List Int):atI (notA A) s l=atI A s l:=by unfold atI notA;simp
theorem divmod_pair {a b:Int} {m:Nat} (hb:0≤b∧b<(m:Int)):(a*(m:Int)+b) / (m:Int)=a∧(a*(m:Int)+b) % (m:Int)=b:=by
 have hm:(m:Int)≠0:=by omega
 refine⟨?_,?_⟩
 ·rw [Int.add_comm,Int.add_mul_ediv_right _ _ hm,Int.ediv_eq_zero_of_lt hb.1 hb.2,Int.zero_add]
 ·rw [Int.add_comm,Int.add_mul_emod_self_right,Int.emod_eq_of_lt hb.1 hb.2]
end Go.Mn
