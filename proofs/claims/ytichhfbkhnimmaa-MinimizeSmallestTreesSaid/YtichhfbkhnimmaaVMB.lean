/- Trees, plainly: sizes, depths, orders, places. No condition. -/
import Derived.Test.YtichhfbkhnimmaaUW
set_option linter.unusedSimpArgs false
set_option linter.unusedVariables false
namespace Go.Rt
open Go
inductive Tr where
 |node (s:Int) (l:List Tr)
instance:Inhabited Tr:=⟨.node 0 []⟩
def Tr.sym:Tr→Int
 | .node s _=>s
abbrev w64i (a:Int):Int:=IntKind.i64.wrap a
mutual
def fu_:Tr→Int
 | .node _ l=>bb_ 1 l
def bb_:Int→List Tr→Int
 |n,[]=>n
 |n,t::ts=>bb_ (w64i (n+fu_ t)) ts
end
mutual
def fo_:Tr→Int
 | .node _ l=>fp_ 0 l
def fp_:Int→List Tr→Int
 |n,[]=>w64i (n+1)
 |n,t::ts=>fp_ (if fo_ t>n then fo_ t else n) ts
end
mutual
def nodesE (r:List Int):Tr→Nat
 | .node s l=>if s<0∨(r.length:Int)≤s then 6 else if (l.length:Int)≠r.getD s.toNat 0 then 3 else bf_ r l
def bf_ (r:List Int):List Tr→Nat
 | []=>0
 |t::ts=>if nodesE r t≠0 then nodesE r t else bf_ r ts
end
def alphaE (r:List Int):Nat:=
 if r.length<1∨4096<r.length then 2 else if ∃ n∈r,n<0∨2<n then 3 else if (0:Int)∈r then 0 else 9
def rightE (r:List Int) (t:Tr):Nat:=
 if alphaE r≠0 then alphaE r else if 4096<fu_ t then 2 else if 256<fo_ t then 16 else nodesE r t
def cmpI (a b:Int):Int:=if a<b then -1 else if a>b then 1 else 0
mutual
def cmpT:Tr→Tr→Int
 |  .node s l,.node s' l'=>
    if cmpI (bb_ 1 l) (bb_ 1 l')≠0 then cmpI (bb_ 1 l) (bb_ 1 l') else if cmpI s s'≠0 then cmpI s s' else if cmpI l.length l'.length≠0 then cmpI l.length l'.length else cmpL l l'
def cmpL:List Tr→List Tr→Int
 |t::ts,u::us=>if cmpT t u≠0 then cmpT t u else cmpL ts us
 |_,_=>0
end
end Go.Rt
set_option linter.unusedSectionVars false
set_option maxHeartbeats 400000
namespace Go.Rt
open Go Go.RowKit Go.PP Go.Dm
variable [GlobW]
mutual
def er_:Tr→List D
 | .node s l=> [.flat (.int .i64 s),.sl false 2 l.length (ae_ l)]
def ae_:List Tr→List D
 | []=> []
 |t::ts=>er_ t++ae_ ts
end
abbrev c2_ (t:Tr):D:= .agg (er_ t)
abbrev fa_ (l:List Tr):D:= .sl false 2 l.length (ae_ l)
mutual
def TSm:Tr→Prop
 | .node _ l=>l.length*32≤140737488351232∧TSmL l
def TSmL:List Tr→Prop
 | []=>True
 |t::ts=>TSm t∧TSmL ts
end
mutual
def SymR:Tr→Prop
 | .node s l=>(-9223372036854775808≤s∧s≤9223372036854775807)∧ib_ l
def ib_:List Tr→Prop
 | []=>True
 |t::ts=>SymR t∧ib_ ts
end
mutual
def depT:Tr→Nat
 | .node _ l=>depL l+1
def depL:List Tr→Nat
 | []=>0
 |t::ts=>max (depT t) (depL ts)
end
theorem a9_ (s:Int) (l:List Tr):er_ (.node s l)=[.flat (.int .i64 s),fa_ l]:=by rw [er_]
theorem ak_ (s:Int) (l:List Tr):c2_ (.node s l)= .agg [.flat (.int .i64 s),fa_ l]:=by rw [c2_,er_]
theorem co_:ae_ []=[]:=by rw [ae_]
theorem dm_ (t:Tr) (ts:List Tr):ae_ (t::ts)=er_ t++ae_ ts:=by rw [ae_]
theorem cu_ {s:Int} {l:List Tr}:TSm (.node s l)↔l.length*32≤140737488351232∧TSmL l:=by rw [TSm]
theorem ib_.at:∀ {l:List Tr},ib_ l→ ∀ {i:Nat} {t:Tr},l[i]?=some t→SymR t
 | [],_,i,t,h=>by simp at h
 |x::xs,hs,i,t,h=>by
  rw [ib_] at hs
  cases i with
  |zero=>simp at h;subst h;exact hs.1
  |succ i=>exact ib_.at hs.2 (by simpa using h)
theorem ib_.of:∀ {l:List Tr},(∀ (i:Nat) t,l[i]?=some t→SymR t)→ib_ l
 | [],_=>by rw [ib_];trivial
 |x::xs,h=>by
  rw [ib_]
  exact⟨h 0 x (by simp),ib_.of fun i t hi=>h (i+1) t (by simpa using hi)⟩
theorem ax_ {s:Int} {l:List Tr}:depT (.node s l)=depL l+1:=by rw [depT]
theorem TSmL.at:∀ {l:List Tr},TSmL l→ ∀ {i:Nat} {t:Tr},l[i]?=some t→TSm t
 | [],_,i,t,h=>by simp at h
 |x::xs,hs,i,t,h=>by
  rw [TSmL] at hs
  cases i with
  |zero=>simp at h;subst h;exact hs.1
  |succ i=>exact TSmL.at hs.2 (by simpa using h)
theorem TSmL.of:∀ {l:List Tr},(∀ (i:Nat) t,l[i]?=some t→TSm t)→TSmL l
 | [],_=>by rw [TSmL];trivial
 |x::xs,h=>by
  rw [TSmL]
  exact⟨h 0 x (by simp),TSmL.of fun i t hi=>h (i+1) t (by simpa using hi)⟩
theorem d5_:∀ {l:List Tr} {i:Nat} {t:Tr},l[i]?=some t→depT t≤depL l
 | [],i,t,h=>by simp at h
 |x::xs,i,t,h=>by
  rw [depL]
  cases i with
  |zero=>simp at h;subst h;omega
  |succ i=>have:=d5_ (l:=xs) (i:=i) (t:=t) (by simpa using h);omega
theorem en_ (t:Tr):(er_ t).length=2:=by cases t with|node s l=>rw [er_];rfl
theorem dq_:∀ l:List Tr,(ae_ l).length=l.length*2
 | []=>by rw [ae_];rfl
 |t::ts=>by rw [ae_,List.length_append,en_,dq_ ts,List.length_cons];omega
theorem c8_:∀ l r:List Tr,ae_ (l++r)=ae_ l++ae_ r
 | [],r=>by rw [ae_];rfl
 |t::ts,r=>by rw [List.cons_append,ae_,ae_,c8_ ts r,List.append_assoc]
theorem gi_ (t:Tr):ae_ [t]=er_ t:=by rw [ae_,ae_,List.append_nil]
theorem kf_ {l:List Tr} {i:Nat} {t:Tr} (h:l[i]?=some t):ae_ (l.take (i+1))=ae_ (l.take i)++er_ t:=by
 rw [List.take_add_one,h,c8_,Option.toList_some,gi_]
theorem jz_:∀ {l:List Tr} {i:Nat} {t:Tr},l[i]?=some t→((ae_ l).drop (i*2)).take 2=er_ t
 | [],i,t,h=>by simp at h
 |x::xs,i,t,h=>by
  rw [ae_]
  cases i with
  |zero=>
   simp at h;subst h
   rw [Nat.zero_mul,List.drop_zero,List.take_append_of_le_length (by rw [en_];omega),List.take_of_length_le (by rw [en_];omega)]
  |succ i=>
   rw [List.drop_append,List.drop_eq_nil_of_le (by rw [en_];omega),List.nil_append,en_,show (i+1)*2 - 2=i*2 by omega]
   exact jz_ (by simpa using h)
theorem bk_ {l:List Tr} {i:Nat} {t:Tr} (h:l[i]?=some t):partD true 2 (i*2) (ae_ l)=some (c2_ t):=by
 have hi:=(List.getElem?_eq_some_iff.1 h).1
 have h1:=jz_ h
 have h2:=dq_ l
 simp only [partD,c2_]
 simp only [h1,en_]
 first
  |rfl
  |(rw [if_pos (by omega)];rfl)
  |(simp;omega)
  |simp
theorem g2_ (t:Tr):persL (er_ t)=true:=by cases t with|node s l=>rw [er_];rfl
theorem ah_:∀ l:List Tr,persL (ae_ l)=true
 | []=>by rw [ae_];rfl
 |t::ts=>by rw [ae_];exact cg_ (g2_ t) (ah_ ts)
theorem rf_ (t:Tr):pers (c2_ t)=true:=g2_ t
instance (l:List Tr):PersL (ae_ l):=⟨ah_ l⟩
instance (t:Tr):PersL (er_ t):=⟨g2_ t⟩
instance (t:Tr):PersD (c2_ t):=⟨rf_ t⟩
theorem hq_:∀ {l r:List D},oneL l=true→oneL r=true→oneL (l++r)=true
 | [],r,_,h=>h
 |d::ds,r,h1,h2=>by
  simp only [oneL,Bool.and_eq_true] at h1
  simp only [List.cons_append,oneL,Bool.and_eq_true]
  exact⟨h1.1,hq_ h1.2 h2⟩
end Go.Rt
namespace Go.Rt
open Go
theorem hv_ (a:Int):cmpI a a=0:=by unfold cmpI;rw [if_neg (by omega),if_neg (by omega)]
theorem h1_ (a b:Int):cmpI b a= - cmpI a b:=by
 unfold cmpI
 rcases Int.lt_trichotomy a b with h|h|h
 ·rw [if_neg (by omega),if_pos (by omega),if_pos h];rfl
 ·subst h;rw [if_neg (by omega),if_neg (by omega)];rfl
 ·rw [if_pos h,if_neg (by omega),if_pos (by omega)]
theorem oj_ {a b:Int}:cmpI a b<0↔a<b:=by
 unfold cmpI
 split
 ·constructor <;> intro h <;> omega
 ·split
  ·constructor <;> intro h <;> omega
  ·constructor <;> intro h <;> omega
theorem b8_ {a b:Int}:cmpI a b=0↔a=b:=by
 unfold cmpI
 split
 ·constructor <;> intro h <;> omega
 ·split
  ·constructor <;> intro h <;> omega
  ·constructor <;> intro h <;> omega
theorem dg_ (s:Int) (l:List Tr):fu_ (.node s l)=bb_ 1 l:=by rw [fu_]
theorem dw_ (s s':Int) (l l':List Tr):cmpT (.node s l) (.node s' l')=if cmpI (bb_ 1 l) (bb_ 1 l')≠0 then cmpI (bb_ 1 l) (bb_ 1 l') else if cmpI s s'≠0 then cmpI s s' else if cmpI l.length l'.length≠0 then cmpI l.length l'.length else cmpL l l':=by rw [cmpT]
theorem du_ (t u:Tr) (ts us:List Tr):cmpL (t::ts) (u::us)=if cmpT t u≠0 then cmpT t u else cmpL ts us:=by rw [cmpL]
theorem fl_ (us:List Tr):cmpL [] us=0:=by rw [cmpL];rintro t ts u us h;cases h
theorem mt_ (ts:List Tr):cmpL ts []=0:=by rw [cmpL];rintro t ts u us _ h;cases h
mutual
theorem i5_:∀ t u:Tr,cmpT u t= - cmpT t u
 | .node s l,.node s' l'=>by
   rw [dw_,dw_,h1_ (bb_ 1 l) (bb_ 1 l'),h1_ s s',h1_ l.length l'.length,mq_ l l']
   by_cases h1:cmpI (bb_ 1 l) (bb_ 1 l')=0
   ·by_cases h2:cmpI s s'=0
    ·   by_cases h3:cmpI l.length l'.length=0
        ·simp [h1,h2,h3]
        ·simp [h1,h2,h3]
    ·simp [h1,h2]
   ·simp [h1]
theorem mq_:∀ l l':List Tr,cmpL l' l= - cmpL l l'
 | [],l'=>by rw [mt_,fl_];rfl
 |t::ts,[]=>by rw [mt_,fl_];rfl
 |t::ts,u::us=>by
  rw [du_,du_,i5_ t u,mq_ ts us]
  by_cases h:cmpT t u=0
  ·simp [h]
  ·simp [h]
end
mutual
theorem ed_:∀ t:Tr,cmpT t t=0
 | .node s l=>by rw [dw_,hv_,hv_,hv_];simp [l5_ l]
theorem l5_:∀ l:List Tr,cmpL l l=0
 | []=>fl_ _
 |t::ts=>by rw [du_,ed_ t];simp [l5_ ts]
end
mutual
theorem gv_:∀ t u:Tr,cmpT t u=0→t=u
 | .node s l,.node s' l',h=>by
   rw [dw_] at h
   by_cases h1:cmpI (bb_ 1 l) (bb_ 1 l')=0
   ·by_cases h2:cmpI s s'=0
    ·   by_cases h3:cmpI l.length l'.length=0
        ·simp only [h1,h2,h3,ne_eq,not_true_eq_false,if_false] at h
         have h3:=b8_.1 h3
         rw [b8_.1 h2,rn_ l l' (by omega) h]
        ·simp [h1,h2,h3] at h
    ·simp [h1,h2] at h
   ·simp [h1] at h
theorem rn_:∀ l l':List Tr,l.length=l'.length→cmpL l l'=0→l=l'
 | [],[],_,_=>rfl
 | [],_::_,h,_=>by cases h
 |_::_,[],h,_=>by cases h
 |t::ts,u::us,hl,h=>by
  rw [du_] at h
  by_cases h1:cmpT t u=0
  ·simp only [h1,ne_eq,not_true_eq_false,if_false] at h
   rw [gv_ t u h1,rn_ ts us (by simpa using hl) h]
  ·simp [h1] at h
end
theorem ua_ {s s':Int} {l l':List Tr}:cmpT (.node s l) (.node s' l')<0↔bb_ 1 l<bb_ 1 l'∨(bb_ 1 l=bb_ 1 l'∧(s<s'∨(s=s'∧(l.length<l'.length∨(l.length=l'.length∧cmpL l l'<0))))):=by
 rw [dw_]
 by_cases h1:cmpI (bb_ 1 l) (bb_ 1 l')=0
 ·have   e1:=b8_.1 h1
  by_cases h2:cmpI s s'=0
  ·have  e2:=b8_.1 h2
   by_cases h3:cmpI l.length l'.length=0
   ·    have e3:=b8_.1 h3
        simp only [h1,h2,h3,ne_eq,not_true_eq_false,if_false]
        omega
   ·    have e3:=mt b8_.2 h3
        simp only [h1,h2,h3,ne_eq,not_true_eq_false,if_false,not_false_eq_true,if_true]
        rw [oj_]
        omega
  ·have e2:=mt b8_.2 h2
   simp only [h1,h2,ne_eq,not_true_eq_false,if_false,not_false_eq_true,if_true]
   rw [oj_]
   omega
 ·have e1:=mt b8_.2 h1
  simp only [h1,ne_eq,not_false_eq_true,if_true]
  rw [oj_]
  omega
theorem nm_ {t u:Tr} {ts us:List Tr}:cmpL (t::ts) (u::us)<0↔cmpT t u<0∨(t=u∧cmpL ts us<0):=by
 rw [du_]
 by_cases h:cmpT t u=0
 ·have e:=gv_ t u h
  subst e
  simp [h]
 ·have e:t≠u:=fun e=>h (by rw [e];exact ed_ u)
  simp [h,e]
mutual
theorem fi_:∀ t u v:Tr,cmpT t u<0→cmpT u v<0→cmpT t v<0
 | .node s l,.node s' l',.node s2 l2,h1,h2=>by
   rw [ua_] at h1 h2 ⊢
   have ih:=js_ l l' l2
   omega
theorem js_:∀ l l' l2:List Tr,l.length=l'.length→l'.length=l2.length→cmpL l l'<0→cmpL l' l2<0→cmpL l l2<0
 | [],l',l2,_,_,h,_=>by rw [fl_] at h;omega
 |t::ts,[],_,h,_,_,_=>by cases h
 |_::_,_::_,[],_,h,_,_=>by cases h
 |t::ts,u::us,v::vs,e1,e2,h1,h2=>by
  rw [nm_] at h1 h2 ⊢
  rcases h1 with h1| ⟨rfl,h1⟩
  ·rcases h2 with h2| ⟨rfl,h2⟩
   ·exact .inl (fi_ t u v h1 h2)
   ·exact .inl h1
  ·rcases h2 with h2| ⟨rfl,h2⟩
   ·exact .inl h2
   ·exact .inr ⟨rfl,js_ ts us vs (by simpa using e1) (by simpa using e2) h1 h2⟩
end
theorem lq_ {t u v:Tr} (h1:cmpT t u≤0) (h2:cmpT u v≤0):cmpT t v≤0:=by
 by_cases e1:cmpT t u=0
 ·rw [gv_ _ _ e1];exact h2
 ·by_cases e2:cmpT u v=0
  ·rw [← gv_ _ _ e2];exact h1
  ·have:=fi_ t u v (by omega) (by omega)
   omega
mutual
def aw_:Tr→Nat
 | .node _ l=>bm_ l+1
def bm_:List Tr→Nat
 | []=>0
 |t::ts=>aw_ t+bm_ ts
end
theorem aq_ (s:Int) (l:List Tr):aw_ (.node s l)=bm_ l+1:=by rw [aw_]
theorem bz_ (t:Tr) (ts:List Tr):bm_ (t::ts)=aw_ t+bm_ ts:=by rw [bm_]
theorem ql_:bm_ []=0:=by rw [bm_]
theorem sl_ (t:Tr):0<aw_ t:=by cases t;rw [aw_];omega
theorem l8_:∀ {l:List Tr} {i:Nat} {t:Tr},l[i]?=some t→aw_ t≤bm_ l
 | [],i,t,h=>by simp at h
 |x::xs,i,t,h=>by
  rw [bm_]
  cases i with
  |zero=>simp at h;subst h;omega
  |succ i=>have:=l8_ (l:=xs) (i:=i) (t:=t) (by simpa using h);omega
theorem tm_ {a:Int} (h1: -9223372036854775808≤a) (h2:a≤9223372036854775807):w64i a=a:=by unfold w64i;rw [IntKind.wrap_i64];omega
mutual
theorem hn_:∀ t:Tr,aw_ t≤4611686018427387904→fu_ t=aw_ t
 | .node s l,h=>by
   rw [aq_] at h
   rw [dg_,aq_,pd_ l 1 (by omega) (by omega) (by omega)]
   omega
theorem pd_:∀ (l:List Tr) (n:Int),0≤n→n+bm_ l≤4611686018427387905→bm_ l≤4611686018427387904→bb_ n l=n+bm_ l
 | [],n,_,_,_=>by rw [bb_,bm_];omega
 |t::ts,n,h0,h,h2=>by
  rw [bm_] at h h2 ⊢
  rw [bb_,hn_ t (by omega),tm_ (by omega) (by omega),pd_ ts _ (by omega) (by omega) (by omega)]
  omega
end
end Go.Rt
namespace Go.Mn
open Go Go.Rt
structure Au where
 r:List Int
 f:List Bool
 to:List (List Int)
structure AlphaOk (r:List Int):Prop where
 lo:1≤r.length
 hi:r.length≤4096
 rng:∀ x∈r,0≤x∧x≤2
theorem gj_ {r:List Int} (h:alphaE r=0):AlphaOk r:=by
 unfold alphaE at h
 split at h
 ·cases h
 ·split at h
  ·cases h
  ·rename_i h1 h2
   refine⟨by omega,by omega,fun x hx=>?_⟩
   have:¬ (x<0∨2<x):=fun e=>h2 ⟨x,hx,e⟩
   omega
def ba_ (k:Int) (n:Nat):Nat:=n ^ k.toNat
noncomputable def chk (A:Au):Nat:=
 open Classical in
 if alphaE A.r≠0 then alphaE A.r
 else if A.f.length<1∨512<A.f.length then 2
 else if A.to.length≠A.r.length then 3
 else if (∃ (i:Nat) (l:List Int) (k:Int),A.to[i]?=some l∧A.r[i]?=some k∧l.length≠ba_ k A.f.length) then 3
 else if (∃ l∈A.to,∃ s∈l,s<0∨(A.f.length:Int)≤s) then 2 else 0
structure AuOk (A:Au):Prop where
 alpha:AlphaOk A.r
 lo:1≤A.f.length
 hi:A.f.length≤512
 len:A.to.length=A.r.length
 wide:∀ (i:Nat) (l:List Int) (k:Int),A.to[i]?=some l→A.r[i]?=some k→l.length=ba_ k A.f.length
 rng:∀ l∈A.to,∀ s∈l,0≤s∧s<(A.f.length:Int)
theorem a6_ {A :Au} (h:chk A=0):AuOk A:=by
  unfold chk at h
  split at h
  ·rename_i h0;exact absurd h h0
  · rename_i h0
    have h0:alphaE A.r=0:=by omega
    split at h
    ·cases h
    · split at h
      ·cases h
      · split at h
        ·cases h
        · split at h
          ·cases h
          · rename_i h1 h2 h3 h4
            refine⟨gj_ h0,by omega,by omega,by omega,fun i l k q1 q2=>?_,fun l hl s hs=>?_⟩
            ·exact Classical.byContradiction fun e=>h3 ⟨i,l,k,q1,q2,e⟩
            · have:¬ (s<0∨(A.f.length:Int)≤s):=fun e=>h4 ⟨l,hl,s,hs,e⟩
              omega
def ar_ (n:Nat) (l:List Int):Int:=l.foldl (fun (p s:Int)=>p*(n:Int)+s) 0
def atI (A:Au) (s:Int) (l:List Int):Int:=(A.to.getD s.toNat []).getD (ar_ A.f.length l).toNat 0
structure Fits (A:Au) (s:Int) (l:List Int):Prop where
 s0:0≤s
 s1:s<A.r.length
 len:(l.length:Int)=A.r.getD s.toNat 0
 rng:∀ x∈l,0≤x∧x<(A.f.length:Int)
theorem e0_ (n:Nat) (l:List Int) (x:Int):ar_ n (l++ [x])=ar_ n l*n+x:=by simp [ar_]
theorem g1_ {n:Nat}:∀ (l:List Int) (p:Int) (q:Nat),0≤p→p<q→(∀ x∈l,0≤x∧x<(n:Int))→0≤l.foldl (fun (p s:Int)=>p*(n:Int)+s) p∧l.foldl (fun (p s:Int)=>p*(n:Int)+s) p<((q*n ^ l.length:Nat):Int)
 | [],p,q,h1,h2,_=>by simpa using ⟨h1,h2⟩
 |x::l,p,q,h1,h2,h=>by
  obtain⟨h3,h4⟩:=h x (by simp)
  have h5:0≤p*n:=Int.mul_nonneg h1 (by omega)
  have h6:p*n+n≤(q:Int)*n:=by
   have:(p+1)*n≤(q:Int)*n:=Int.mul_le_mul_of_nonneg_right (by omega) (by omega)
   rw [Int.add_mul,Int.one_mul] at this
   exact this
  have:=g1_ l (p*n+x) (q*n) (by omega) (by rw [Int.natCast_mul];omega) (fun y hy=>h y (by simp [hy]))
  rw [List.foldl_cons,List.length_cons,Nat.pow_succ,show q*(n ^ l.length*n)=q*n*n ^ l.length by rw [Nat.mul_comm (n ^ l.length) n,Nat.mul_assoc]]
  exact this
theorem kb_ {n:Nat} (l:List Int) (h:∀ x∈l,0≤x∧x<(n:Int)):0≤ar_ n l∧ar_ n l<((n ^ l.length:Nat):Int):=by
 have:=g1_ l 0 1 (by omega) (by omega) h
 simpa [ar_] using this
theorem we_ {n:Nat} {l:List Int} (hn:n≤512) (h:∀ x∈l,0≤x∧x<(n:Int)) (hl:l.length≤2) {j:Nat} (hj:j<l.length):0≤ar_ n (l.take j)∧ar_ n (l.take j)≤512∧0≤ar_ n (l.take j)*n∧ar_ n (l.take j)*n≤262144:=by
 have h1:=kb_ (n:=n) (l.take j) (fun x hx=>h x (List.mem_of_mem_take hx))
 have hlen:(l.take j).length=j:=by simp;omega
 rw [hlen] at h1
 have hle:ar_ n (l.take j)≤512:=by
  rcases (show j=0∨j=1 by omega) with rfl|rfl
  ·have:=h1.2;rw [Nat.pow_zero] at this;omega
  ·have:=h1.2;rw [Nat.pow_one] at this;omega
 refine⟨h1.1,hle,Int.mul_nonneg h1.1 (by omega),?_⟩
 have:ar_ n (l.take j)*n≤512*n:=Int.mul_le_mul_of_nonneg_right hle (by omega)
 omega
theorem mr_ {n:Nat} {l:List Int} {j:Nat} {x:Int} (h:l[j]?=some x):ar_ n (l.take (j+1))=ar_ n (l.take j)*n+x:=by
 obtain⟨hk,rfl⟩:=List.getElem?_eq_some_iff.1 h
 rw [List.take_succ_eq_append_getElem hk,e0_]
theorem Fits.at {A:Au} (hA:AuOk A) {s:Int} {l:List Int} (h:Fits A s l):
  ∃ (i p:Nat) (row:List Int) (q:Int),s=i∧i<A.to.length∧A.to[i]?=some row∧ar_ A.f.length l=p∧p<row.length∧row[p]?=some q∧atI A s l=q∧0≤q∧q<A.f.length∧l.length≤2:=by
 obtain⟨i,rfl⟩:=Int.eq_ofNat_of_zero_le h.s0
 have hi:i<A.r.length:=by have:=h.s1;omega
 have hi2:i<A.to.length:=by rw [hA.len];exact hi
 have hk:A.r[i]?=some A.r[i]:=by simp
 have hrow:A.to[i]?=some A.to[i]:=by simp
 have hw:=hA.wide i _ _ hrow hk
 have hlen:=h.len
 simp only [Int.toNat_natCast,List.getD,hk,Option.getD_some] at hlen
 have hr:=hA.alpha.rng _ (List.getElem_mem hi)
 obtain⟨h1,h2⟩:=kb_ (n:=A.f.length) l h.rng
 obtain⟨p,hp⟩:=Int.eq_ofNat_of_zero_le h1
 have hpl:p<A.to[i].length:=by
  rw [hw,ba_]
  have:(A.r[i]).toNat=l.length:=by omega
  rw [this];omega
 have hq:A.to[i][p]?=some A.to[i][p]:=by simp
 have hrg:=hA.rng _ (List.getElem_mem hi2) _ (List.getElem_mem hpl)
 exact⟨i,p,_,_,rfl,hi2,hrow,hp,hpl,hq,by simp [atI,List.getD,hrow,hp,hq],hrg.1,hrg.2,by omega⟩
def digs (n:Nat):Nat→Nat→List Int
 |0,_=> []
 |k+1,p=>digs n k (p / n)++ [((p % n:Nat):Int)]
theorem fd_ (n:Nat):∀ k p,(digs n k p).length=k
 |0,_=>rfl
 |k+1,p=>by simp [digs,fd_ n k]
theorem hk_ {n:Nat} (hn:0<n):∀ k p,∀ x∈digs n k p,0≤x∧x<(n:Int)
 |0,_,x,h=>by simp [digs] at h
 |k+1,p,x,h=>by
  simp only [digs,List.mem_append,List.mem_singleton] at h
  rcases h with h|rfl
  ·exact hk_ hn k _ x h
  ·have:=Nat.mod_lt p hn;omega
theorem jo_ {n:Nat} (hn:0<n):∀ k p,p<n ^ k→ar_ n (digs n k p)=p
 |0,p,h=>by simp at h;subst h;rfl
 |k+1,p,h=>by
  rw [digs,e0_,jo_ hn k (p / n) (by rw [Nat.pow_succ] at h;exact Nat.div_lt_of_lt_mul (by rw [Nat.mul_comm];exact h))]
  rw [← Int.natCast_mul,← Int.natCast_add,Nat.mul_comm]
  exact congrArg _ (Nat.div_add_mod p n)
def a3_ (n:Nat) (T:Int→List Int→Int) (i:Nat) (k:Int):List Int:=(List.range (ba_ k n)).map fun p=>T i (digs n k.toNat p)
def ap_ (n:Nat) (T:Int→List Int→Int) (rs:List Int):List (List Int):=(List.range rs.length).map fun i=>a3_ n T i (rs.getD i 0)
def d7_ (rs:List Int) (n:Nat) (T:Int→List Int→Int) (F:Nat→Bool):Au:=⟨rs,(List.range n).map F,ap_ n T rs⟩
theorem oz_ {k:Int} {n:Nat} (hk:k≤2) (hn:n≤512):ba_ k n≤262144:=by
 have h:k.toNat≤2:=by omega
 unfold ba_
 rcases (show k.toNat=0∨k.toNat=1∨k.toNat=2 by omega) with e|e|e <;> rw [e]
 ·rw [Nat.pow_zero];omega
 ·rw [Nat.pow_one];omega
 ·rw [Nat.pow_succ,Nat.pow_one];exact Nat.mul_le_mul hn hn
def hasI (l:List Int) (x:Int):Int:=if x∈l then (l.idxOf x:Nat) else -1
theorem gq_ {l:List Int} {x:Int} (h:x∈l):hasI l x=(l.idxOf x:Nat):=if_pos h
def ks_ (A:Au) (l:List Int) (i:Int) (ds:List Int):Int:=hasI l (atI A i (ds.map fun d=>l.getD d.toNat 0))
def n1_ (A:Au) (l:List Int) (s:Nat):Bool:=A.f.getD (l.getD s 0).toNat false
def c6_ (A:Au) (l:List Int):Au:=d7_ A.r l.length (ks_ A l) (n1_ A l)
structure ShutL (A:Au) (l:List Int):Prop where
 pos:0<l.length
 hi:l.length≤512
 nd:l.Nodup
 rng:∀ s∈l,0≤s∧s<(A.f.length:Int)
 shut:∀ (i:Nat) (k:Int) (ds:List Int),A.r[i]?=some k→(ds.length:Int)=k→(∀ d∈ds,0≤d∧d<(l.length:Int))→atI A i (ds.map fun d=>l.getD d.toNat 0)∈l
theorem kp_ {l:List Int} {d:Int} (h:0≤d∧d<(l.length:Int)):l.getD d.toNat 0∈l:=by
 have:d.toNat<l.length:=by omega
 simp [List.getD,this]
theorem ShutL.fits {A:Au} {l:List Int} (h:ShutL A l) {i:Nat} {k:Int} {ds:List Int} (hi:A.r[i]?=some k) (hl:(ds.length:Int)=k) (hd:∀ d∈ds,0≤d∧d<(l.length:Int)):Fits A i (ds.map fun d=>l.getD d.toNat 0):=by
 refine⟨by omega,?_,?_,fun x hx=>?_⟩
 ·have:=(List.getElem?_eq_some_iff.1 hi).1;omega
 ·simp [List.getD,hi,hl]
 ·obtain⟨d,hd1,rfl⟩:=List.mem_map.1 hx
  exact h.rng _ (kp_ (hd d hd1))
theorem rk_:∀ (l:List Int) (j:Nat) (x:Int),l.Nodup→l[j]?=some x→l.idxOf x=j
 | [],j,x,_,h=>by simp at h
 |a::l,0,x,_,h=>by simp at h;subst h;simp
 |a::l,j+1,x,hn,h=>by
  rw [List.nodup_cons] at hn
  simp only [List.getElem?_cons_succ] at h
  have hx:x∈l:=List.mem_of_getElem? h
  have hne:a≠x:=fun e=>hn.1 (e ▸ hx)
  rw [List.idxOf_cons,rk_ l j x hn.2 h]
  have:(a == x)=false:=by simpa using hne
  rw [this];rfl
def ixL (n:Nat) (l:List Int):List Int:=(List.range n).map fun (i:Nat)=>if (i:Int)∈l then ((l.idxOf (i:Int):Nat):Int) else 0
theorem yy_ {n:Nat} {l:List Int} {x:Int} (h:x∈l) (h0:0≤x) (h1:x<(n:Int)):(ixL n l).getD x.toNat 0=hasI l x:=by
 obtain⟨m,rfl⟩:=Int.eq_ofNat_of_zero_le h0
 have hm:m<n:=by omega
 simp [ixL,List.getD,hm,hasI,h]
structure PermOk (n:Nat) (l:List Int):Prop where
 len:l.length=n
 nd:l.Nodup
 rng:∀ s∈l,0≤s∧s<(n:Int)
theorem m0_:∀ (n:Nat) (l:List Int),(∀ i:Nat,i<n→(i:Int)∈l)→n≤l.length
 |0,l,_=>Nat.zero_le _
 |n+1,l,h=>by
  have hn:=h n (by omega)
  have h1:=m0_ n (l.erase (n:Int)) (fun i hi=>(List.mem_erase_of_ne (by omega)).2 (h i (by omega)))
  rw [List.length_erase_of_mem hn] at h1
  have:=List.length_pos_of_mem hn
  omega
theorem dj_:∀ (n:Nat) (l:List Int),l.Nodup→(∀ s∈l,0≤s∧s<(n:Int))→l.length≤n
 |0,l,_,h=>by
  cases l with
  |nil=>simp
  |cons a l=>have:=h a (by simp);omega
 |n+    1,l,hd,h=>by
  by_cases hn:(n:Int)∈l
  ·have  hp:=List.perm_cons_erase hn
   have hd2:=hp.nodup_iff.1 hd
   rw [List.nodup_cons] at hd2
   have  h1:=dj_ n (l.erase (n:Int)) hd2.2 (fun s hs=>by
        have h2:=h s (List.mem_of_mem_erase hs)
        have h3:s≠(n:Int):=fun e=>hd2.1 (e ▸ hs)
        omega)
   rw [List.length_erase_of_mem hn] at h1
   omega
  ·have  h1:=dj_ n l hd (fun s hs=>by
        have h2:=h s hs
        have h3:s≠(n:Int):=fun e=>hn (e ▸ hs)
        omega)
   omega
def A00:Au:=⟨[],[],[]⟩
theorem hp_ {A:Au} (hok:AuOk A) {i:Nat} {row:List Int} {k:Int} (hr:A.to[i]?=some row) (hk:A.r[i]?=some k):a3_ A.f.length (atI A) i k=row:=by
 have hw:=hok.wide i row k hr hk
 apply List.ext_getElem?
 intro p
 by_cases hp:p<ba_ k A.f.length
 ·have h1:ar_ A.f.length (digs A.f.length k.toNat p)=p:=jo_ (by have:=hok.lo;omega) _ _ hp
  have h2:p<row.length:=by rw [hw];exact hp
  simp [a3_,hp,atI,List.getD,hr,h1,h2]
 ·rw [List.getElem?_eq_none (by simp [a3_];omega),List.getElem?_eq_none (by rw [hw];omega)]
end Go.Mn
namespace Go.Mn
open Go Go.Rt
mutual
def a0_ (A:Au):Tr→Int
 | .node s l=>atI A s (ay_ A l)
def ay_ (A:Au):List Tr→List Int
 | []=> []
 |t::ts=>a0_ A t::ay_ A ts
end
theorem bo_ (A:Au) (s:Int) (l:List Tr):a0_ A (.node s l)=atI A s (ay_ A l):=by rw [a0_]
theorem bd_ (A:Au):∀ l:List Tr,ay_ A l=l.map (a0_ A)
 | []=>by rw [ay_];rfl
 |t::ts=>by rw [ay_,bd_ A ts];rfl
theorem bl_ {r:List Int} {s:Int} {l:List Tr} (h:nodesE r (.node s l)=0):0≤s∧s<r.length∧(l.length:Int)=r.getD s.toNat 0∧bf_ r l=0:=by
 rw [nodesE] at h
 split at h
 ·cases h
 ·split at h
  ·cases h
  ·rename_i h1 h2
   exact⟨by omega,by omega,by omega,h⟩
theorem cd_ {r:List Int} {t:Tr} {ts:List Tr} (h:bf_ r (t::ts)=0):nodesE r t=0∧bf_ r ts=0:=by
 rw [bf_] at h
 split at h
 ·rename_i h1;exact absurd h h1
 ·rename_i h1;exact⟨by omega,h⟩
theorem dk_ {r:List Int}:∀ {l:List Tr},bf_ r l=0→ ∀ t∈l,nodesE r t=0
 | [],_,t,h=>by cases h
 |u::us,hl,t,h=>by
  obtain⟨h1,h2⟩:=cd_ hl
  rcases List.mem_cons.1 h with rfl|h
  ·exact h1
  ·exact dk_ h2 t h
mutual
theorem i8_ {A:Au} (hA:AuOk A):∀ t:Tr,nodesE A.r t=0→0≤a0_ A t∧a0_ A t<(A.f.length:Int)
 | .node s l,h=>by
   obtain⟨h1,h2,h3,h4⟩:=bl_ h
   rw [a0_]
   have hf:Fits A s (ay_ A l):=⟨h1,h2,by rw [bd_,List.length_map];exact h3,ei_ hA l h4⟩
   obtain⟨i,p,row,q,rfl,hi,hrow,hp,hpl,hq,hat,hq0,hq1,hl2⟩:=hf.at hA
   rw [hat]
   exact⟨hq0,hq1⟩
theorem ei_ {A:Au} (hA:AuOk A):∀ l:List Tr,bf_ A.r l=0→ ∀ x∈ay_ A l,0≤x∧x<(A.f.length:Int)
 | [],_,x,hx=>by rw [ay_] at hx;cases hx
 |t::ts,h,x,hx=>by
  obtain⟨h1,h2⟩:=cd_ h
  rw [ay_] at hx
  rcases List.mem_cons.1 hx with rfl|hx
  ·exact i8_ hA t h1
  ·exact ei_ hA ts h2 x hx
end
theorem j5_ {A:Au} (hA:AuOk A) {s:Int} {l:List Tr} (h:nodesE A.r (.node s l)=0):Fits A s (ay_ A l):=by
 obtain⟨h1,h2,h3,h4⟩:=bl_ h
 exact⟨h1,h2,by rw [bd_,List.length_map];exact h3,ei_ hA l h4⟩
theorem eb_ {A:Au} (h:chk A=0):alphaE A.r=0:=by
 unfold chk at h
 split at h
 ·rename_i h0;exact absurd h h0
 ·omega
theorem ow_ {A:Au} (ha:alphaE A.r=0) (h:AuOk A):chk A=0:=by
 have h1:=h.lo
 have h2:=h.hi
 unfold chk
 rw [if_neg (by omega),if_neg (by omega),if_neg (by simp [h.len]),if_neg,if_neg]
 ·rintro⟨l,hl,s,hs,e⟩
  have:=h.rng l hl s hs
  omega
 ·rintro⟨i,l,k,q1,q2,e⟩
  exact e (h.wide i l k q1 q2)
theorem pz_ {n:Nat}:∀ (l:List Int),(∀ x∈l,0≤x∧x<(n:Int))→0≤ar_ n l∧ar_ n l<((n ^ l.length:Nat):Int):=fun l h=>by
 have:=g1_ (n:=n) l 0 1 (by omega) (by omega) h
 refine⟨this.1,?_⟩
 have h2:=this.2
 rw [Nat.one_mul] at h2
 exact h2
theorem j4_ {n:Nat} (hn:0<n):∀ (k:Nat) (l:List Int),l.length=k→(∀ x∈l,0≤x∧x<(n:Int))→digs n k (ar_ n l).toNat=l
 |0,l,hl,_=>by rw [List.eq_nil_of_length_eq_zero hl];rfl
 |k+1,l,hl,h=>by
  have hne:l≠ []:=fun e=>by rw [e] at hl;simp at hl
  obtain⟨m,x,rfl⟩:∃ m x,l=m++ [x]:=⟨l.dropLast,l.getLast hne,(List.dropLast_concat_getLast hne).symm⟩
  have hm:m.length=k:=by simpa using hl
  have hx:=h x (by simp)
  have hml:∀ y∈m,0≤y∧y<(n:Int):=fun y hy=>h y (by simp [hy])
  have hp:=pz_ m hml
  have ih:=j4_ hn k m hm hml
  obtain⟨p,hpe⟩:=Int.eq_ofNat_of_zero_le hp.1
  obtain⟨x',rfl⟩:=Int.eq_ofNat_of_zero_le hx.1
  have hx':x'<n:=by omega
  have e1:(ar_ n (m++ [(x':Int)])).toNat=p*n+x':=by
   rw [e0_,hpe,← Int.natCast_mul,← Int.natCast_add,Int.toNat_natCast]
  rw [e1,digs]
  have e2:(p*n+x') / n=p:=by rw [Nat.mul_comm,Nat.mul_add_div hn,Nat.div_eq_of_lt hx',Nat.add_zero]
  have e3:(p*n+x') % n=x':=by rw [Nat.mul_comm,Nat.mul_add_mod,Nat.mod_eq_of_lt hx']
  rw [e2,e3]
  rw [hpe,Int.toNat_natCast] at ih
  rw [ih]
theorem a7_ (rs:List Int) (n:Nat) (T:Int→List Int→Int) (F:Nat→Bool):(d7_ rs n T F).f.length=n:=by simp [d7_]
theorem f0_ (rs:List Int) (n:Nat) (T:Int→List Int→Int) (F:Nat→Bool):(d7_ rs n T F).to.length=rs.length:=by simp [d7_,ap_]
theorem g7_ {rs:List Int} {n:Nat} {T:Int→List Int→Int} {F:Nat→Bool} {i:Nat} {k:Int} (h:rs[i]?=some k):(d7_ rs n T F).to[i]?=some (a3_ n T i k):=by
 have hi:=(List.getElem?_eq_some_iff.1 h).1
 show (ap_ n T rs)[i]?=_
 unfold ap_
 rw [List.getElem?_map,List.getElem?_range hi]
 simp [List.getD,h]
theorem td_ {rs:List Int} {n:Nat} {T:Int→List Int→Int} {F:Nat→Bool} (ha:alphaE rs=0) (h1:1≤n) (h2:n≤512)
  (hT:∀ (i k p:Nat),rs[i]?=some ((k:Nat):Int)→p<ba_ k n→0≤T i (digs n k p)∧T i (digs n k p)<(n:Int)):AuOk (d7_ rs n T F):=by
 have hal:=gj_ ha
 refine⟨hal,by rw [a7_];exact h1,by rw [a7_];exact h2,f0_ rs n T F,fun i l k q1 q2=>?_,fun l hl s hs=>?_⟩
 ·have q2:rs[i]?=some k:=q2
  rw [g7_ q2] at q1
  cases q1
  rw [a7_]
  simp [a3_]
 ·rw [a7_]
  obtain⟨i,hi,rfl⟩:=List.mem_iff_getElem.1 hl
  have hir:i<rs.length:=by rw [f0_] at hi;exact hi
  have q2:rs[i]?=some rs[i]:=by simp
  have q3:=g7_ (n:=n) (T:=T) (F:=F) q2
  rw [List.getElem?_eq_getElem hi] at q3
  rw [Option.some.inj q3] at hs
  have hk:=hal.rng rs[i] (by simp)
  obtain⟨k,hke⟩:=Int.eq_ofNat_of_zero_le hk.1
  unfold a3_ at hs
  obtain⟨p,hp,rfl⟩:=List.mem_map.1 hs
  rw [hke] at hp ⊢
  rw [Int.toNat_natCast]
  exact hT i k p (by rw [q2,hke]) (List.mem_range.1 hp)
theorem x9_ {rs:List Int} {n:Nat} {T:Int→List Int→Int} {F:Nat→Bool} (hn:0<n) {s:Int} {l:List Int} (hf:Fits (d7_ rs n T F) s l):atI (d7_ rs n T F) s l=T s l:=by
 obtain⟨i,rfl⟩:=Int.eq_ofNat_of_zero_le hf.s0
 have hi:i<rs.length:=by have:=hf.s1;show i<(d7_ rs n T F).r.length;omega
 have hr:rs[i]?=some rs[i]:=by simp
 have hlen:(l.length:Int)=rs[i]:=by
  have:=hf.len
  rw [Int.toNat_natCast] at this
  rw [this]
  show rs.getD i 0=_
  simp [List.getD,hi]
 have hrg:=hf.rng
 rw [a7_] at hrg
 have hpl:=pz_ l hrg
 unfold atI
 have h1:(d7_ rs n T F).to.getD i []=a3_ n T i rs[i]:=by rw [List.getD_eq_getElem?_getD,g7_ hr,Option.getD_some]
 rw [a7_,Int.toNat_natCast,h1]
 unfold a3_
 have hw:ba_ rs[i] n=n ^ l.length:=by unfold ba_;rw [← hlen,Int.toNat_natCast]
 have hlt:(ar_ n l).toNat<ba_ rs[i] n:=by rw [hw];omega
 rw [List.getD_eq_getElem?_getD,List.getElem?_map,List.getElem?_range hlt,Option.map_some,Option.getD_some]
 rw [← hlen,Int.toNat_natCast,j4_ hn l.length l rfl hrg]
theorem i1_ {a b:Int} {m:Nat} (hb:0≤b∧b<(m:Int)):(a*(m:Int)+b) / (m:Int)=a∧(a*(m:Int)+b) % (m:Int)=b:=by
 have hm:(m:Int)≠0:=by omega
 refine⟨?_,?_⟩
 ·rw [Int.add_comm,Int.add_mul_ediv_right _ _ hm,Int.ediv_eq_zero_of_lt hb.1 hb.2,Int.zero_add]
 ·rw [Int.add_comm,Int.add_mul_emod_self_right,Int.emod_eq_of_lt hb.1 hb.2]
end Go.Mn
