/- Automata, plainly: the least list of steps, as the reference finds it. No condition. -/
import Derived.Test.YtichhfbkhnimmaaYMI
import Derived.Test.YtichhfbkhnimmaaXW
import Derived.Test.YtichhfbkhnimmaaProg
import Derived.Test.YtichhfbkhnimmaaCheckedPd
import Derived.Test.YtichhfbkhnimmaaCheckedPe
set_option linter.unusedSimpArgs false
set_option linter.unusedVariables false
set_option maxHeartbeats 400000
namespace Go.Mn
open Go Go.Rt
def nearI (A:Au) (d:Nat) (p q:Int):Nat:=((List.range (stepsA A).length).find? fun (i:Nat)=>decide (farA A (nextI A (spAt A i) p) (nextI A (spAt A i) q)=(d:Int))).getD 0
def apartL (A:Au):Nat→Int→Int→List Nat
 |0,_,_=> []
 |d+1,p,q=>nearI A d p q::apartL A d (nextI A (spAt A (nearI A d p q)) p) (nextI A (spAt A (nearI A d p q)) q)
theorem sle_antisymm {u v:List Nat} (h:sle u v) (k:sle v u):u=v:=by
 rcases h with h|h
 ·exact h
 ·rcases k with k|k
  ·exact k.symm
  ·exact absurd (slt_trans h k) (slt_irr u)
theorem near_spec {A:Au} {d:Nat} {p q:Int} (hd:d+1≤A.final.length) (h:MinD A (d+1) p q):nearI A d p q<(stepsA A).length∧MinD A d (nextI A (spAt A (nearI A d p q)) p) (nextI A (spAt A (nearI A d p q)) q)∧ ∀ j,j<nearI A d p q→ ¬ MinD A d (nextI A (spAt A j) p) (nextI A (spAt A j) q):=by
 have hE:Eqk A d p q:=fun e he=>h.2 e (by omega)
 obtain⟨s,hs,hm⟩:=(minD_succ hE).1 h
 obtain⟨i,hi⟩:=List.getElem?_of_mem hs
 have hil:=(List.getElem?_eq_some_iff.1 hi).1
 have hsp:spAt A i=s:=by unfold spAt;rw [List.getD_eq_getElem?_getD,hi];rfl
 obtain⟨m,h1,h2,h3,h4⟩:=find_first (f:=fun (i:Nat)=>decide (farA A (nextI A (spAt A i) p) (nextI A (spAt A i) q)=(d:Int))) hil (decide_eq_true (by rw [hsp];exact far_pos.2 ⟨by omega,hm⟩))
 unfold nearI
 rw [h1,Option.getD_some]
 refine⟨by omega,(far_pos.1 (of_decide_eq_true h3)).2,fun j hj hj2=>?_⟩
 have h5:=h4 j hj
 have h6:farA A (nextI A (spAt A j) p) (nextI A (spAt A j) q)=(d:Int):=far_pos.2 ⟨by omega,hj2⟩
 rw [decide_eq_true h6] at h5
 cases h5
theorem apart_least {A:Au}:∀ (d:Nat) (p q:Int),d≤A.final.length→MinD A d p q→DistW A (apartL A d p q) p q∧(apartL A d p q).length=d∧ ∀ g,DistW A g p q→sle (apartL A d p q) g
  | 0,p,q,_,h=>by
    rw [apartL]
    refine⟨⟨fun i hi=>(by cases hi),dist_zero.1 h.1⟩,rfl,fun g hg=>?_⟩
    cases g with
    |nil=>exact .inl rfl
    |cons x g=>exact .inr (.inl (by simp))
  | d + 1, p, q,hd,h=>by
    obtain⟨h1,h2,h3⟩:=near_spec hd h
    obtain⟨⟨i1,i2⟩,i3,i4⟩:=apart_least d _ _ (by omega) h2
    rw [apartL]
    refine⟨⟨fun i hi=>?_,i2⟩,by rw [List.length_cons,i3],fun g hg=>?_⟩
    · rcases List.mem_cons.1 hi with rfl|hi
      ·exact h1
      ·exact i1 i hi
    · have hgl :¬ g.length<d+1:=fun hl=>h.2 _ hl (distW_of hg)
      by_cases hl:g.length=d+1
      · cases g with
        |nil=>cases hl
        | cons j g=>
          have hg':DistW A g (nextI A (spAt A j) p) (nextI A (spAt A j) q):=⟨fun i hi=>hg.1 i (List.mem_cons_of_mem _ hi),hg.2⟩
          have hj:=hg.1 j (by simp)
          have hgd:g.length=d:=by simpa using hl
          have hmin:MinD A d (nextI A (spAt A j) p) (nextI A (spAt A j) q):=by
            refine⟨by rw [← hgd];exact distW_of hg',fun e he hde=>h.2 (e+1) (by omega) (dist_succ.2 ⟨_,spAt_mem hj,hde⟩)⟩
          rcases Nat.lt_trichotomy (nearI A d p q) j with hlt|heq|hgt
          ·exact .inr (.inr ⟨by rw [List.length_cons,List.length_cons,i3,hgd],.inl hlt⟩)
          · rw [heq] at i4 i3 ⊢
            rcases i4 g hg' with e|e
            ·exact .inl (by rw [e])
            · rcases e with e| ⟨e1,e2⟩
              ·omega
              ·exact .inr (.inr ⟨by rw [List.length_cons,List.length_cons,e1],.inr ⟨rfl,e2⟩⟩)
          ·exact absurd hmin (h3 j hgt)
      ·exact .inr (.inl (by rw [List.length_cons,i3];omega))
end Go.Mn
namespace Go.Mn
open Go Go.Rt
theorem sizeT_kid {s:Int} {l:List Tr} {t:Tr} (h:t∈l):sizeT t<sizeT (.node s l):=by
 obtain⟨i,hi⟩:=List.getElem?_of_mem h
 have:=sizeTL_at hi
 rw [sizeT_node];omega
theorem sizeL_small {s:Int} {l:List Tr} (h:sizeT (.node s l)≤4096):sizeL 1 l=(sizeT (.node s l):Int):=by
 have:=sizeW_eq (.node s l) (by omega)
 rw [sizeW_node] at this
 exact this
theorem cmpT_small {s s':Int} {l l':List Tr} (h:sizeT (.node s l)≤4096) (h':sizeT (.node s' l')≤4096):cmpT (.node s l) (.node s' l')<0↔sizeT (.node s l)<sizeT (.node s' l')∨(sizeT (.node s l)=sizeT (.node s' l')∧(s<s'∨(s=s'∧(l.length<l'.length∨(l.length=l'.length∧cmpL l l'<0))))):=by
 rw [cmpT_lt,sizeL_small h,sizeL_small h']
 constructor
 ·rintro (h1| ⟨h1,h2⟩)
  ·exact .inl (by omega)
  ·exact .inr ⟨by omega,h2⟩
 ·rintro (h1| ⟨h1,h2⟩)
  ·exact .inl (by omega)
  ·exact .inr ⟨by omega,h2⟩
def leT (t u:Tr):Prop:=cmpT t u≤0
theorem leT_or {t u:Tr} (h:leT t u):cmpT t u<0∨t=u:=by
 unfold leT at h
 by_cases e:cmpT t u=0
 ·exact .inr (cmpT_eq _ _ e)
 ·exact .inl (by omega)
theorem leT_total (t u:Tr):leT t u∨cmpT u t<0:=by
 unfold leT
 rw [cmpT_swap t u]
 omega
theorem leT_size {t u:Tr} (ht:sizeT t≤4096) (hu:sizeT u≤4096) (h:leT t u):sizeT t≤sizeT u:=by
 rcases leT_or h with h|rfl
 ·obtain⟨s,l⟩:=t
  obtain⟨s',l'⟩:=u
  rcases (cmpT_small ht hu).1 h with h| ⟨h,_⟩ <;> omega
 ·exact Nat.le_refl _
def tupT (T:List Tr):Nat→List (List Tr)
 |0=> [[]]
 |k+1=>T.flatMap fun t=>(tupT T k).map fun l=>t::l
def allT (r:List Int):Nat→List Tr
 |0=> []
 |k+1=>(List.range r.length).flatMap fun s=>(tupT (allT r k) (r.getD s 0).toNat).map fun l=> .node (s:Int) l
theorem mem_tupT {T:List Tr}:∀ {l:List Tr},(∀ t∈l,t∈T)→l∈tupT T l.length
 | [],_=>by simp [tupT]
 |t::ts,h=>List.mem_flatMap.2 ⟨t,h t (by simp),List.mem_map.2 ⟨ts,mem_tupT fun x hx=>h x (List.mem_cons_of_mem _ hx),rfl⟩⟩
theorem mem_allT {r:List Int}:∀ (k:Nat) (t:Tr),sizeT t≤k→nodesE r t=0→t∈allT r k
 |0,t,h,_=>by have:=sizeT_pos t;omega
 |k+1,.node s l,h,hn=>by
  obtain⟨h1,h2,h3,h4⟩:=nodes_good hn
  obtain⟨m,rfl⟩:=Int.eq_ofNat_of_zero_le h1
  refine List.mem_flatMap.2 ⟨m,List.mem_range.2 (by omega),List.mem_map.2 ⟨l,?_,rfl⟩⟩
  rw [Int.toNat_natCast] at h3
  rw [← h3,Int.toNat_natCast]
  exact mem_tupT fun t ht=>mem_allT k t (by have:=sizeT_kid (s:=(m:Int)) ht;omega) (nodesL_mem h4 t ht)
theorem countP_lt {α:Type} {p q:α→Bool} {x:α}:∀ {l:List α},(∀ y,p y=true→q y=true)→x∈l→p x=false→q x=true→l.countP p<l.countP q
 |y::ys,h,hx,h1,h2=>by
  have hle:ys.countP p≤ys.countP q:=List.countP_mono_left fun z _=>h z
  rw [List.countP_cons,List.countP_cons]
  rcases List.mem_cons.1 hx with rfl|hx
  ·rw [h1,h2]
   show _+0<_+1
   omega
  ·have ih:=countP_lt h hx h1 h2
   by_cases e:p y=true
   ·rw [if_pos e,if_pos (h y e)];omega
   ·rw [if_neg e];omega
def rkT (r:List Int) (t:Tr):Nat:=(allT r 4096).countP fun u=>decide (cmpT u t<0)
theorem rkT_lt {r:List Int} {t u:Tr} (ht:sizeT t≤4096) (hn:nodesE r t=0) (h:cmpT t u<0):rkT r t<rkT r u:=by
 refine countP_lt (x:=t) (fun y hy=>?_) (mem_allT _ t ht hn) ?_ ?_
 ·exact decide_eq_true (cmpT_trans _ _ _ (of_decide_eq_true hy) h)
 ·exact decide_eq_false (by rw [cmpT_self];omega)
 ·exact decide_eq_true h
structure Reach (A:Au) (q:Int) (t:Tr):Prop where
 n:nodesE A.ranks t=0
 s:stateT A t=q
 z:sizeT t≤4096
def Best (A:Au) (q:Int) (t:Tr):Prop:=Reach A q t∧ ∀ u,Reach A q u→leT t u
theorem best_of {A:Au} {q:Int} {t:Tr} (h:Reach A q t):∃ u,Best A q u:=by
 have key:∀ n t,rkT A.ranks t≤n→Reach A q t→ ∃ u,Best A q u:=by
  intro n
  induction n with
  |zero=>
   intro t hn ht
   refine⟨t,ht,fun u hu=>?_⟩
   rcases leT_total t u with h|h
   ·exact h
   ·have:=rkT_lt hu.z hu.n h;omega
  |succ  n ih=>
   intro t hn ht
   by_cases hb:∀ u,Reach A q u→leT t u
   ·exact⟨t,ht,hb⟩
   ·    obtain⟨u,hu⟩:=Classical.not_forall.1 hb
        obtain⟨hu,hl⟩:=Classical.not_imp.1 hu
        have:cmpT u t<0:=(leT_total t u).resolve_left hl
        exact ih u (by have:=rkT_lt hu.z hu.n this;omega) hu
 exact key _ t (Nat.le_refl _) h
end Go.Mn
namespace Go.Mn
open Go Go.Rt
theorem quo_all {A:Au} {reps:List Int} (hk:chk A=0) (h:RepsOk A reps) {d:Nat} (hd:d<reps.length):(d:Int)∈foundA (quoA A reps):=quo_found hk h ⟨by omega,by omega⟩
theorem found_perm {A:Au} {reps:List Int} (hk:chk A=0) (h:RepsOk A reps):PermOk (quoA A reps).final.length (foundA (quoA A reps)):=by
 have hqo:=quo_ok hk h
 have hnd:=found_nd hqo
 have hrng:∀ x∈foundA (quoA A reps),0≤x∧x<((quoA A reps).final.length:Int):=fun x hx=>found_in hqo hx
 have h1:=pigeon_few _ _ hnd hrng
 have h2:=pigeon_le (quoA A reps).final.length (foundA (quoA A reps)) fun i hi=>quo_found hk h ⟨by omega,by rw [quo_len] at hi;omega⟩
 exact⟨by omega,hnd,hrng⟩
end Go.Mn
namespace Go.Mn
open Go Go.Rt
def opsN (n k at_:Nat):List Nat:=if k=0 then [] else if k=1 then [at_] else [at_ / n,at_ % n]
def rankN (A:Au) (i:Nat):Nat:=(A.ranks.getD i 0).toNat
def rowN (A:Au) (i:Nat):List Int:=A.to.getD i []
def succN (A:Au) (i at_:Nat):Nat:=((rowN A i).getD at_ 0).toNat
theorem rankN_le {A:Au} (hok:AuOk A) {i:Nat} (hi:i<A.ranks.length):rankN A i≤2∧A.ranks[i]?=some ((rankN A i:Nat):Int):=by
 obtain⟨r1,r2,r3⟩:=rank_at hok hi
 exact⟨r2,r1⟩
theorem rowN_at {A:Au} (hok:AuOk A) {i:Nat} (hi:i<A.ranks.length):A.to[i]?=some (rowN A i)∧(rowN A i).length=A.final.length ^ rankN A i∧ ∀ (p:Nat) (s:Int),(rowN A i)[p]?=some s→s=((succN A i p:Nat):Int)∧succN A i p<A.final.length:=by
 have h1:A.to[i]?=some (rowN A i):=by
  unfold rowN
  rw [List.getD_eq_getElem?_getD,List.getElem?_eq_getElem (by rw [hok.len];exact hi)];rfl
 obtain⟨r1,r2⟩:=rankN_le hok hi
 refine⟨h1,?_,fun p s hp=>?_⟩
 ·have:=hok.wide i _ _ h1 r2
  rw [this];unfold wideN;rw [Int.toNat_natCast]
 ·have hr:=hok.rng _ (List.mem_of_getElem? h1) s (List.mem_of_getElem? hp)
  unfold succN
  rw [List.getD_eq_getElem?_getD,hp,Option.getD_some]
  omega
theorem opsN_place {n:Nat} {ds:List Int} (hl:ds.length≤2) (hd:∀ d∈ds,0≤d∧d<(n:Int)):opsN n ds.length (placeOf n ds).toNat=ds.map Int.toNat∧(placeOf n ds).toNat<n ^ ds.length:=by
 match ds,hl with
 | [],_=>exact⟨rfl,by show (0:Nat)<n ^ 0;simp⟩
 | [x],_=>
   obtain⟨h1,h2⟩:=hd x (by simp)
   have e:placeOf n [x]=x:=by show 0*(n:Int)+x=x;omega
   rw [e]
   refine⟨rfl,?_⟩
   show x.toNat<n ^ 1
   rw [Nat.pow_one];omega
 | [x,y],_=>
   obtain⟨h1,h2⟩:=hd x (by simp)
   obtain⟨h3,h4⟩:=hd y (by simp)
   obtain⟨a,rfl⟩:=Int.eq_ofNat_of_zero_le h1
   obtain⟨b,rfl⟩:=Int.eq_ofNat_of_zero_le h3
   have e:placeOf n [(a:Int),(b:Int)]=((a*n+b:Nat):Int):=by
    show (0*(n:Int)+(a:Int))*(n:Int)+(b:Int)=_
    rw [Int.zero_mul,Int.zero_add,Int.natCast_add,Int.natCast_mul]
   have hb:b<n:=by omega
   have ha:a<n:=by omega
   rw [e,Int.toNat_natCast]
   constructor
   ·show [(a*n+b) / n,(a*n+b) % n]=[(a:Int).toNat,(b:Int).toNat]
    rw [show (a*n+b) / n=a by rw [Nat.mul_comm,Nat.mul_add_div (by omega),Nat.div_eq_of_lt hb,Nat.add_zero],show (a*n+b) % n=b by rw [Nat.mul_comm,Nat.mul_add_mod,Nat.mod_eq_of_lt hb],Int.toNat_natCast,Int.toNat_natCast]
   ·show a*n+b<n ^ 2
    have:(a+1)*n≤n*n:=Nat.mul_le_mul_right _ ha
    rw [Nat.add_mul,Nat.one_mul] at this
    rw [Nat.pow_two];omega
theorem state_place {A:Au} (hok:AuOk A) {s:Int} {l:List Tr} (h:nodesE A.ranks (.node s l)=0):∃ i at_:Nat,s=i∧i<A.ranks.length∧at_<(rowN A i).length∧opsN A.final.length (rankN A i) at_=(stateL A l).map Int.toNat∧succN A i at_=(stateT A (.node s l)).toNat∧rankN A i=l.length:=by
 obtain⟨h1,h2,h3,h4⟩:=nodes_good h
 obtain⟨i,rfl⟩:=Int.eq_ofNat_of_zero_le h1
 have hi:i<A.ranks.length:=by omega
 obtain⟨r1,r2⟩:=rankN_le hok hi
 have hrl:rankN A i=l.length:=by
  unfold rankN
  rw [Int.toNat_natCast] at h3
  omega
 have hsl:(stateL A l).length=l.length:=by rw [stateL_map,List.length_map]
 obtain⟨p1,p2⟩:=opsN_place (n:=A.final.length) (ds:=stateL A l) (by omega) (stateL_rng hok l h4)
 obtain⟨q1,q2,q3⟩:=rowN_at hok hi
 refine⟨i,(placeOf A.final.length (stateL A l)).toNat,rfl,hi,by rw [q2,hrl,← hsl];exact p2,by rw [hrl,← hsl];exact p1,?_,hrl⟩
 rw [stateT_node]
 unfold succN atI rowN
 rw [Int.toNat_natCast]
def ClosedK (A:Au) (K:Nat→Prop):Prop:= ∀ i at_:Nat,i<A.ranks.length→at_<(rowN A i).length→(∀ o∈opsN A.final.length (rankN A i) at_,K o)→K (succN A i at_)
mutual
theorem closed_tree {A:Au} (hok:AuOk A) {K:Nat→Prop} (h:ClosedK A K):∀ t:Tr,nodesE A.ranks t=0→K (stateT A t).toNat
 | .node s l,hn=>by
   obtain⟨i,a,rfl,h1,h2,h3,h4,h5⟩:=state_place hok hn
   rw [← h4]
   refine h i a h1 h2 fun o ho=>?_
   rw [h3] at ho
   obtain⟨x,hx,rfl⟩:=List.mem_map.1 ho
   exact closed_treeL hok h l (nodes_good hn).2.2.2 x hx
theorem closed_treeL {A:Au} (hok:AuOk A) {K:Nat→Prop} (h:ClosedK A K):∀ l:List Tr,nodesL A.ranks l=0→ ∀ x∈stateL A l,K x.toNat
 | [],_,x,hx=>by rw [stateL] at hx;cases hx
 |t::ts,hn,x,hx=>by
  obtain⟨h1,h2⟩:=nodesL_good hn
  rw [stateL] at hx
  rcases List.mem_cons.1 hx with rfl|hx
  ·exact closed_tree hok h t h1
  ·exact closed_treeL hok h ts h2 x hx
end
theorem closed_found {A:Au} (hok:AuOk A) {K:Nat→Prop} (h:ClosedK A K) {x:Int} (hx:x∈foundA A):K x.toNat:=by
 obtain⟨t,h1,rfl⟩:=found_tree hok hx
 exact closed_tree hok h t h1
def sumN (sz:Nat→Nat) (l:List Nat):Nat:=(l.map sz).sum
structure SizeIn (A:Au) (sz:Nat→Nat):Prop where
 le:∀ x,x<A.final.length→sz x≤4097
 by_:∀ x,x<A.final.length→sz x≠4097→ ∃ t,Reach A (x:Int) t∧sizeT t=sz x
def SizeFix (A:Au) (sz:Nat→Nat):Prop:= ∀ i at_:Nat,i<A.ranks.length→at_<(rowN A i).length→sz (succN A i at_)≤1+sumN sz (opsN A.final.length (rankN A i) at_)
mutual
theorem size_le {A:Au} (hok:AuOk A) {sz:Nat→Nat} (h:SizeFix A sz):∀ t:Tr,nodesE A.ranks t=0→sz (stateT A t).toNat≤sizeT t
 | .node s l,hn=>by
   obtain⟨i,a,rfl,h1,h2,h3,h4,h5⟩:=state_place hok hn
   have h6:=h i a h1 h2
   rw [h4,h3] at h6
   have h7:=sizeL_le hok h l (nodes_good hn).2.2.2
   rw [sizeT_node]
   unfold sumN at h6
   omega
theorem sizeL_le {A:Au} (hok:AuOk A) {sz:Nat→Nat} (h:SizeFix A sz):∀ l:List Tr,nodesL A.ranks l=0→(((stateL A l).map Int.toNat).map sz).sum≤sizeTL l
 | [],_=>by rw [stateL];exact Nat.zero_le _
 |t::ts,hn=>by
  obtain⟨h1,h2⟩:=nodesL_good hn
  have a:=size_le hok h t h1
  have b:=sizeL_le hok h ts h2
  rw [stateL,sizeTL_cons,List.map_cons,List.map_cons,List.sum_cons]
  omega
end
structure SizeOk (A:Au) (sz:Nat→Nat):Prop where
 in_:SizeIn A sz
 lo:∀ (x:Nat) (t:Tr),x<A.final.length→Reach A (x:Int) t→sz x≤sizeT t
theorem SizeOk.of {A:Au} (hok:AuOk A) {sz:Nat→Nat} (h1:SizeIn A sz) (h2:SizeFix A sz):SizeOk A sz:=⟨h1,fun x t hx ht=>by
 have:=size_le hok h2 t ht.n
 rwa [ht.s,Int.toNat_natCast] at this⟩
theorem SizeOk.best {A:Au} {sz:Nat→Nat} (h:SizeOk A sz) {x:Nat} {t:Tr} (hx:x<A.final.length) (hb:Best A (x:Int) t):sizeT t=sz x:=by
 have h1:=h.lo x t hx hb.1
 have h2:=hb.1.z
 obtain⟨u,hu,e⟩:=h.in_.by_ x hx (by omega)
 have:=leT_size hb.1.z hu.z (hb.2 u hu)
 omega
theorem SizeOk.ex {A:Au} {sz:Nat→Nat} (h:SizeOk A sz) {x:Nat} (hx:x<A.final.length):sz x<4097↔ ∃ t,Best A (x:Int) t:=by
 constructor
 ·intro hlt
  obtain⟨t,ht,_⟩:=h.in_.by_ x hx (by omega)
  exact best_of ht
 ·rintro⟨t,ht⟩
  have:=h.best hx ht
  have:=ht.1.z
  omega
section
variable {A:Au} {sz:Nat→Nat} {B:Nat→Tr} {s:Nat}
end
end Go.Mn
namespace Go.Proofs.Ytichhfbkhnimmaa
open Go Go.Dm
instance:GlobW:=⟨[]⟩
end Go.Proofs.Ytichhfbkhnimmaa
namespace Go.Proofs.Ytichhfbkhnimmaa
open Go Go.RowKit Go.PP Go.Dm
theorem sz3:sizeOfT Try.prog 3=some 1:=by kernel_rfl
theorem ag3:aggOf Try.prog 3=some false:=by kernel_rfl
theorem ze3:zeroT Try.prog 3=some (.int .i64 0):=by kernel_rfl
theorem nf3:(Try.prog.info? 3).map (fun i=>(i.zero,i.size,i.bytes))=some (some (.int .i64 0),1,8):=by kernel_rfl
theorem sz4:sizeOfT Try.prog 4=some 1:=by kernel_rfl
theorem ag4:aggOf Try.prog 4=some false:=by kernel_rfl
theorem ze4:zeroT Try.prog 4=some (.bool false):=by kernel_rfl
theorem nf4:(Try.prog.info? 4).map (fun i=>(i.zero,i.size,i.bytes))=some (some (.bool false),1,1):=by kernel_rfl
theorem un4:Try.prog.underlying 4=some .bool:=by kernel_rfl
theorem sz22:sizeOfT Try.prog 22=some 1:=by kernel_rfl
theorem ag22:aggOf Try.prog 22=some false:=by kernel_rfl
theorem ze22:zeroT Try.prog 22=some (.slice none 0 0):=by kernel_rfl
theorem nf22:(Try.prog.info? 22).map (fun i=>(i.zero,i.size,i.bytes))=some (some (.slice none 0 0),1,24):=by kernel_rfl
theorem un22:Try.prog.underlying 22=some (.slice 3):=by kernel_rfl
theorem sz23:sizeOfT Try.prog 23=some 1:=by kernel_rfl
theorem ag23:aggOf Try.prog 23=some false:=by kernel_rfl
theorem ze23:zeroT Try.prog 23=some (.slice none 0 0):=by kernel_rfl
theorem un23:Try.prog.underlying 23=some (.slice 4):=by kernel_rfl
theorem sz24:sizeOfT Try.prog 24=some 1:=by kernel_rfl
theorem ag24:aggOf Try.prog 24=some false:=by kernel_rfl
theorem un24:Try.prog.underlying 24=some (.slice 22):=by kernel_rfl
theorem sz26:sizeOfT Try.prog 26=some 3:=by kernel_rfl
theorem ag26:aggOf Try.prog 26=some true:=by kernel_rfl
theorem fd26_0:FieldAt Try.prog 26 0 0 1:=⟨_,_,Try.underlying26,rfl,rfl,by kernel_rfl,by kernel_rfl⟩
theorem fd26_1:FieldAt Try.prog 26 1 1 1:=⟨_,_,Try.underlying26,rfl,rfl,by kernel_rfl,by kernel_rfl⟩
theorem fd26_2:FieldAt Try.prog 26 2 2 1:=⟨_,_,Try.underlying26,rfl,rfl,by kernel_rfl,by kernel_rfl⟩
theorem sz29:sizeOfT Try.prog 29=some 1:=by kernel_rfl
theorem ag29:aggOf Try.prog 29=some false:=by kernel_rfl
theorem sz33:sizeOfT Try.prog 33=some 1:=by kernel_rfl
theorem ag33:aggOf Try.prog 33=some false:=by kernel_rfl
theorem un33:Try.prog.underlying 33=some (.slice 3):=by kernel_rfl
theorem sz35:sizeOfT Try.prog 35=some 3:=by kernel_rfl
theorem ag35:aggOf Try.prog 35=some true:=by kernel_rfl
theorem ze35:zeroT Try.prog 35=some (.agg #[.slice none 0 0,.slice none 0 0,.slice none 0 0]):=by kernel_rfl
theorem pl35 {fs:List Field} (h:Try.prog.underlying 35=some (.struct fs.toArray)):placesD Try.prog fs=some [(0,1),(1,1),(2,1)]:=by
 rw [Try.underlying35] at h
 simp only [Option.some.injEq,TypeDesc.struct.injEq] at h
 have h2:=congrArg Array.toList h
 simp only [List.toList_toArray] at h2
 subst h2
 simp only [placesD,sz23,sz24,sz33]
theorem fd35_0:FieldAt Try.prog 35 0 0 1:=⟨_,_,Try.underlying35,rfl,rfl,by kernel_rfl,by kernel_rfl⟩
theorem fd35_1:FieldAt Try.prog 35 1 1 1:=⟨_,_,Try.underlying35,rfl,rfl,by kernel_rfl,by kernel_rfl⟩
theorem fd35_2:FieldAt Try.prog 35 2 2 1:=⟨_,_,Try.underlying35,rfl,rfl,by kernel_rfl,by kernel_rfl⟩
theorem sz42:sizeOfT Try.prog 42=some 1:=by kernel_rfl
theorem ag42:aggOf Try.prog 42=some false:=by kernel_rfl
theorem un42:Try.prog.underlying 42=some (.slice 50):=by kernel_rfl
theorem un45:Try.prog.underlying 45=some (.slice 52):=by kernel_rfl
theorem sz50:sizeOfT Try.prog 50=some 3:=by kernel_rfl
theorem ag50:aggOf Try.prog 50=some true:=by kernel_rfl
theorem ze50:zeroT Try.prog 50=some (.agg #[.int .i64 0,.int .i64 0,.int .i64 0]):=by kernel_rfl
theorem nf50:(Try.prog.info? 50).map (fun i=>(i.zero,i.size,i.bytes))=some (some (.agg #[.int .i64 0,.int .i64 0,.int .i64 0]),3,24):=by kernel_rfl
theorem pl50 {fs:List Field} (h:Try.prog.underlying 50=some (.struct fs.toArray)):placesD Try.prog fs=some [(0,1),(1,1),(2,1)]:=by
 rw [Try.underlying50] at h
 simp only [Option.some.injEq,TypeDesc.struct.injEq] at h
 have h2:=congrArg Array.toList h
 simp only [List.toList_toArray] at h2
 subst h2
 simp only [placesD,sz3]
theorem fd50_0:FieldAt Try.prog 50 0 0 1:=⟨_,_,Try.underlying50,rfl,rfl,by kernel_rfl,by kernel_rfl⟩
theorem fd50_1:FieldAt Try.prog 50 1 1 1:=⟨_,_,Try.underlying50,rfl,rfl,by kernel_rfl,by kernel_rfl⟩
theorem fd50_2:FieldAt Try.prog 50 2 2 1:=⟨_,_,Try.underlying50,rfl,rfl,by kernel_rfl,by kernel_rfl⟩
theorem sz52:sizeOfT Try.prog 52=some 3:=by kernel_rfl
theorem ag52:aggOf Try.prog 52=some true:=by kernel_rfl
theorem ze52:zeroT Try.prog 52=some (.agg #[.int .i64 0,.int .i64 0,.int .i64 0]):=by kernel_rfl
theorem nf52:(Try.prog.info? 52).map (fun i=>(i.zero,i.size,i.bytes))=some (some (.agg #[.int .i64 0,.int .i64 0,.int .i64 0]),3,24):=by kernel_rfl
theorem pl52 {fs:List Field} (h:Try.prog.underlying 52=some (.struct fs.toArray)):placesD Try.prog fs=some [(0,1),(1,1),(2,1)]:=by
 rw [Try.underlying52] at h
 simp only [Option.some.injEq,TypeDesc.struct.injEq] at h
 have h2:=congrArg Array.toList h
 simp only [List.toList_toArray] at h2
 subst h2
 simp only [placesD,sz3]
theorem fd52_0:FieldAt Try.prog 52 0 0 1:=⟨_,_,Try.underlying52,rfl,rfl,by kernel_rfl,by kernel_rfl⟩
theorem fd52_1:FieldAt Try.prog 52 1 1 1:=⟨_,_,Try.underlying52,rfl,rfl,by kernel_rfl,by kernel_rfl⟩
theorem fd52_2:FieldAt Try.prog 52 2 2 1:=⟨_,_,Try.underlying52,rfl,rfl,by kernel_rfl,by kernel_rfl⟩
theorem ze96:zeroT Try.prog 96=some (.agg #[.slice none 0 0]):=by kernel_rfl
theorem pl96 {fs:List Field} (h:Try.prog.underlying 96=some (.struct fs.toArray)):placesD Try.prog fs=some [(0,1)]:=by
 rw [Try.underlying96] at h
 simp only [Option.some.injEq,TypeDesc.struct.injEq] at h
 have h2:=congrArg Array.toList h
 simp only [List.toList_toArray] at h2
 subst h2
 simp only [placesD,sz22]
theorem fd96_0:FieldAt Try.prog 96 0 0 1:=⟨_,_,Try.underlying96,rfl,rfl,by kernel_rfl,by kernel_rfl⟩
theorem sz98:sizeOfT Try.prog 98=some 1:=by kernel_rfl
theorem ag98:aggOf Try.prog 98=some false:=by kernel_rfl
theorem ze98:zeroT Try.prog 98=some (.nilFunc):=by kernel_rfl
theorem sz101:sizeOfT Try.prog 101=some 2:=by kernel_rfl
theorem ag101:aggOf Try.prog 101=some true:=by kernel_rfl
theorem ze101:zeroT Try.prog 101=some (.agg #[.int .i64 0,.int .i64 0]):=by kernel_rfl
theorem pl101 {fs:List Field} (h:Try.prog.underlying 101=some (.struct fs.toArray)):placesD Try.prog fs=some [(0,1),(1,1)]:=by
 rw [Try.underlying101] at h
 simp only [Option.some.injEq,TypeDesc.struct.injEq] at h
 have h2:=congrArg Array.toList h
 simp only [List.toList_toArray] at h2
 subst h2
 simp only [placesD,sz3]
theorem fd101_0:FieldAt Try.prog 101 0 0 1:=⟨_,_,Try.underlying101,rfl,rfl,by kernel_rfl,by kernel_rfl⟩
theorem fd101_1:FieldAt Try.prog 101 1 1 1:=⟨_,_,Try.underlying101,rfl,rfl,by kernel_rfl,by kernel_rfl⟩
theorem sz104:sizeOfT Try.prog 104=some 3:=by kernel_rfl
theorem ag104:aggOf Try.prog 104=some true:=by kernel_rfl
theorem ze104:zeroT Try.prog 104=some (.agg #[.int .i64 0,.int .i64 0,.slice none 0 0]):=by kernel_rfl
theorem nf104:(Try.prog.info? 104).map (fun i=>(i.zero,i.size,i.bytes))=some (some (.agg #[.int .i64 0,.int .i64 0,.slice none 0 0]),3,40):=by kernel_rfl
theorem pl104 {fs:List Field} (h:Try.prog.underlying 104=some (.struct fs.toArray)):placesD Try.prog fs=some [(0,2),(2,1)]:=by
 rw [Try.underlying104] at h
 simp only [Option.some.injEq,TypeDesc.struct.injEq] at h
 have h2:=congrArg Array.toList h
 simp only [List.toList_toArray] at h2
 subst h2
 simp only [placesD,sz101,sz42]
theorem fd104_0:FieldAt Try.prog 104 0 0 2:=⟨_,_,Try.underlying104,rfl,rfl,by kernel_rfl,by kernel_rfl⟩
theorem fd104_1:FieldAt Try.prog 104 1 2 1:=⟨_,_,Try.underlying104,rfl,rfl,by kernel_rfl,by kernel_rfl⟩
theorem un105:Try.prog.underlying 105=some (.slice 104):=by kernel_rfl
theorem sz150:sizeOfT Try.prog 150=some 1:=by kernel_rfl
theorem ag150:aggOf Try.prog 150=some false:=by kernel_rfl
theorem ze150:zeroT Try.prog 150=some (.nilFunc):=by kernel_rfl
theorem sz171:sizeOfT Try.prog 171=some 2:=by kernel_rfl
theorem ag171:aggOf Try.prog 171=some true:=by kernel_rfl
theorem ze171:zeroT Try.prog 171=some (.agg #[.int .i64 0,.int .i64 0]):=by kernel_rfl
theorem pl171 {fs:List Field} (h:Try.prog.underlying 171=some (.struct fs.toArray)):placesD Try.prog fs=some [(0,1),(1,1)]:=by
 rw [Try.underlying171] at h
 simp only [Option.some.injEq,TypeDesc.struct.injEq] at h
 have h2:=congrArg Array.toList h
 simp only [List.toList_toArray] at h2
 subst h2
 simp only [placesD,sz3]
instance:TyI Try.prog 3 false 1:=⟨ag3,sz3⟩
instance:TyZ Try.prog 3 (.int .i64 0):=⟨ze3⟩
instance:TyIn Try.prog 3 (.int .i64 0) 1 8:=⟨nf3⟩
instance:TyInt Try.prog 3 .i64:=⟨by kernel_rfl⟩
instance:TyI Try.prog 4 false 1:=⟨ag4,sz4⟩
instance:TyZ Try.prog 4 (.bool false):=⟨ze4⟩
instance:TyIn Try.prog 4 (.bool false) 1 1:=⟨nf4⟩
instance:TyBo Try.prog 4:=⟨un4⟩
instance:TyI Try.prog 22 false 1:=⟨ag22,sz22⟩
instance:TyZ Try.prog 22 (.slice none 0 0):=⟨ze22⟩
instance:TyIn Try.prog 22 (.slice none 0 0) 1 24:=⟨nf22⟩
instance:TySl Try.prog 22 3:=⟨un22⟩
instance:TyI Try.prog 23 false 1:=⟨ag23,sz23⟩
instance:TyZ Try.prog 23 (.slice none 0 0):=⟨ze23⟩
instance:TySl Try.prog 23 4:=⟨un23⟩
instance:TyI Try.prog 24 false 1:=⟨ag24,sz24⟩
instance:TySl Try.prog 24 22:=⟨un24⟩
instance:TyI Try.prog 26 true 3:=⟨ag26,sz26⟩
instance:TyFd Try.prog 26 0 0 1:=⟨fd26_0⟩
instance:TyFd Try.prog 26 1 1 1:=⟨fd26_1⟩
instance:TyFd Try.prog 26 2 2 1:=⟨fd26_2⟩
instance:TyI Try.prog 29 false 1:=⟨ag29,sz29⟩
instance:TyI Try.prog 33 false 1:=⟨ag33,sz33⟩
instance:TySl Try.prog 33 3:=⟨un33⟩
instance:TyI Try.prog 35 true 3:=⟨ag35,sz35⟩
instance:TyZ Try.prog 35 (.agg #[.slice none 0 0,.slice none 0 0,.slice none 0 0]):=⟨ze35⟩
instance:TyPl Try.prog 35 [(0,1),(1,1),(2,1)]:=⟨_,Try.underlying35,pl35 Try.underlying35⟩
instance:TyFd Try.prog 35 0 0 1:=⟨fd35_0⟩
instance:TyFd Try.prog 35 1 1 1:=⟨fd35_1⟩
instance:TyFd Try.prog 35 2 2 1:=⟨fd35_2⟩
instance:TyI Try.prog 42 false 1:=⟨ag42,sz42⟩
instance:TySl Try.prog 42 50:=⟨un42⟩
instance:TySl Try.prog 45 52:=⟨un45⟩
instance:TyI Try.prog 50 true 3:=⟨ag50,sz50⟩
instance:TyZ Try.prog 50 (.agg #[.int .i64 0,.int .i64 0,.int .i64 0]):=⟨ze50⟩
instance:TyIn Try.prog 50 (.agg #[.int .i64 0,.int .i64 0,.int .i64 0]) 3 24:=⟨nf50⟩
instance:TyPl Try.prog 50 [(0,1),(1,1),(2,1)]:=⟨_,Try.underlying50,pl50 Try.underlying50⟩
instance:TyFd Try.prog 50 0 0 1:=⟨fd50_0⟩
instance:TyFd Try.prog 50 1 1 1:=⟨fd50_1⟩
instance:TyFd Try.prog 50 2 2 1:=⟨fd50_2⟩
instance:TyI Try.prog 52 true 3:=⟨ag52,sz52⟩
instance:TyZ Try.prog 52 (.agg #[.int .i64 0,.int .i64 0,.int .i64 0]):=⟨ze52⟩
instance:TyIn Try.prog 52 (.agg #[.int .i64 0,.int .i64 0,.int .i64 0]) 3 24:=⟨nf52⟩
instance:TyPl Try.prog 52 [(0,1),(1,1),(2,1)]:=⟨_,Try.underlying52,pl52 Try.underlying52⟩
instance:TyFd Try.prog 52 0 0 1:=⟨fd52_0⟩
instance:TyFd Try.prog 52 1 1 1:=⟨fd52_1⟩
instance:TyFd Try.prog 52 2 2 1:=⟨fd52_2⟩
instance:TyZ Try.prog 96 (.agg #[.slice none 0 0]):=⟨ze96⟩
instance:TyPl Try.prog 96 [(0,1)]:=⟨_,Try.underlying96,pl96 Try.underlying96⟩
instance:TyFd Try.prog 96 0 0 1:=⟨fd96_0⟩
instance:TyI Try.prog 98 false 1:=⟨ag98,sz98⟩
instance:TyZ Try.prog 98 (.nilFunc):=⟨ze98⟩
instance:TyI Try.prog 101 true 2:=⟨ag101,sz101⟩
instance:TyZ Try.prog 101 (.agg #[.int .i64 0,.int .i64 0]):=⟨ze101⟩
instance:TyPl Try.prog 101 [(0,1),(1,1)]:=⟨_,Try.underlying101,pl101 Try.underlying101⟩
instance:TyFd Try.prog 101 0 0 1:=⟨fd101_0⟩
instance:TyFd Try.prog 101 1 1 1:=⟨fd101_1⟩
instance:TyMap Try.prog 102 101 4:=⟨by kernel_rfl⟩
instance:TyI Try.prog 104 true 3:=⟨ag104,sz104⟩
instance:TyZ Try.prog 104 (.agg #[.int .i64 0,.int .i64 0,.slice none 0 0]):=⟨ze104⟩
instance:TyIn Try.prog 104 (.agg #[.int .i64 0,.int .i64 0,.slice none 0 0]) 3 40:=⟨nf104⟩
instance:TyPl Try.prog 104 [(0,2),(2,1)]:=⟨_,Try.underlying104,pl104 Try.underlying104⟩
instance:TyFd Try.prog 104 0 0 2:=⟨fd104_0⟩
instance:TyFd Try.prog 104 1 2 1:=⟨fd104_1⟩
instance:TySl Try.prog 105 104:=⟨un105⟩
instance:TyI Try.prog 150 false 1:=⟨ag150,sz150⟩
instance:TyZ Try.prog 150 (.nilFunc):=⟨ze150⟩
instance:TyMap Try.prog 156 3 3:=⟨by kernel_rfl⟩
instance:TyInt Try.prog 162 .u64:=⟨by kernel_rfl⟩
instance:TyMap Try.prog 169 171 3:=⟨by kernel_rfl⟩
instance:TyI Try.prog 171 true 2:=⟨ag171,sz171⟩
instance:TyZ Try.prog 171 (.agg #[.int .i64 0,.int .i64 0]):=⟨ze171⟩
instance:TyPl Try.prog 171 [(0,1),(1,1)]:=⟨_,Try.underlying171,pl171 Try.underlying171⟩
theorem ent11:Enters Try.prog 11:=fun args w=>by go_simp
instance:EntC Try.prog 11:=⟨ent11⟩
theorem ent12:Enters Try.prog 12:=fun args w=>by go_simp
instance:EntC Try.prog 12:=⟨ent12⟩
theorem ent13:Enters Try.prog 13:=fun args w=>by go_simp
instance:EntC Try.prog 13:=⟨ent13⟩
theorem ent14:Enters Try.prog 14:=fun args w=>by go_simp
instance:EntC Try.prog 14:=⟨ent14⟩
theorem ent15:Enters Try.prog 15:=fun args w=>by go_simp
instance:EntC Try.prog 15:=⟨ent15⟩
theorem ent17:Enters Try.prog 17:=fun args w=>by go_simp
instance:EntC Try.prog 17:=⟨ent17⟩
theorem ent18:Enters Try.prog 18:=fun args w=>by go_simp
instance:EntC Try.prog 18:=⟨ent18⟩
theorem ent19:Enters Try.prog 19:=fun args w=>by go_simp
instance:EntC Try.prog 19:=⟨ent19⟩
theorem ent20:Enters Try.prog 20:=fun args w=>by go_simp
instance:EntC Try.prog 20:=⟨ent20⟩
theorem ent21:Enters Try.prog 21:=fun args w=>by go_simp
instance:EntC Try.prog 21:=⟨ent21⟩
theorem ent22:Enters Try.prog 22:=fun args w=>by go_simp
instance:EntC Try.prog 22:=⟨ent22⟩
theorem ent23:Enters Try.prog 23:=fun args w=>by go_simp
instance:EntC Try.prog 23:=⟨ent23⟩
theorem ent24:Enters Try.prog 24:=fun args w=>by go_simp
instance:EntC Try.prog 24:=⟨ent24⟩
theorem ent34:Enters Try.prog 34:=fun args w=>by go_simp
instance:EntC Try.prog 34:=⟨ent34⟩
theorem ent46:Enters Try.prog 46:=fun args w=>by go_simp
instance:EntC Try.prog 46:=⟨ent46⟩
theorem ent47:Enters Try.prog 47:=fun args w=>by go_simp
instance:EntC Try.prog 47:=⟨ent47⟩
theorem ent48:Enters Try.prog 48:=fun args w=>by go_simp
instance:EntC Try.prog 48:=⟨ent48⟩
theorem ent49:Enters Try.prog 49:=fun args w=>by go_simp
instance:EntC Try.prog 49:=⟨ent49⟩
theorem ent50:Enters Try.prog 50:=fun args w=>by go_simp
instance:EntC Try.prog 50:=⟨ent50⟩
theorem ent51:Enters Try.prog 51:=fun args w=>by go_simp
instance:EntC Try.prog 51:=⟨ent51⟩
theorem ent52:Enters Try.prog 52:=fun args w=>by go_simp
instance:EntC Try.prog 52:=⟨ent52⟩
theorem ent53:Enters Try.prog 53:=fun args w=>by go_simp
instance:EntC Try.prog 53:=⟨ent53⟩
theorem ent54:Enters Try.prog 54:=fun args w=>by go_simp
instance:EntC Try.prog 54:=⟨ent54⟩
theorem ent55:Enters Try.prog 55:=fun args w=>by go_simp
instance:EntC Try.prog 55:=⟨ent55⟩
theorem ent56:Enters Try.prog 56:=fun args w=>by go_simp
instance:EntC Try.prog 56:=⟨ent56⟩
theorem ent57:Enters Try.prog 57:=fun args w=>by go_simp
instance:EntC Try.prog 57:=⟨ent57⟩
theorem ent58:Enters Try.prog 58:=fun args w=>by go_simp
instance:EntC Try.prog 58:=⟨ent58⟩
theorem ent59:Enters Try.prog 59:=fun args w=>by go_simp
instance:EntC Try.prog 59:=⟨ent59⟩
theorem ent60:Enters Try.prog 60:=fun args w=>by go_simp
instance:EntC Try.prog 60:=⟨ent60⟩
theorem ent68:Enters Try.prog 68:=fun args w=>by go_simp
instance:EntC Try.prog 68:=⟨ent68⟩
theorem ent69:Enters Try.prog 69:=fun args w=>by go_simp
instance:EntC Try.prog 69:=⟨ent69⟩
theorem ent70:Enters Try.prog 70:=fun args w=>by go_simp
instance:EntC Try.prog 70:=⟨ent70⟩
theorem ent71:Enters Try.prog 71:=fun args w=>by go_simp
instance:EntC Try.prog 71:=⟨ent71⟩
theorem ent72:Enters Try.prog 72:=fun args w=>by go_simp
instance:EntC Try.prog 72:=⟨ent72⟩
theorem ent76:Enters Try.prog 76:=fun args w=>by go_simp
instance:EntC Try.prog 76:=⟨ent76⟩
theorem ent78:Enters Try.prog 78:=fun args w=>by go_simp
instance:EntC Try.prog 78:=⟨ent78⟩
theorem ent88:Enters Try.prog 88:=fun args w=>by go_simp
instance:EntC Try.prog 88:=⟨ent88⟩
theorem ent89:Enters Try.prog 89:=fun args w=>by go_simp
instance:EntC Try.prog 89:=⟨ent89⟩
theorem ent90:Enters Try.prog 90:=fun args w=>by go_simp
instance:EntC Try.prog 90:=⟨ent90⟩
theorem ent91:Enters Try.prog 91:=fun args w=>by go_simp
instance:EntC Try.prog 91:=⟨ent91⟩
theorem ent92:Enters Try.prog 92:=fun args w=>by go_simp
instance:EntC Try.prog 92:=⟨ent92⟩
theorem ent93:Enters Try.prog 93:=fun args w=>by go_simp
instance:EntC Try.prog 93:=⟨ent93⟩
theorem ent94:Enters Try.prog 94:=fun args w=>by go_simp
instance:EntC Try.prog 94:=⟨ent94⟩
theorem ent95:Enters Try.prog 95:=fun args w=>by go_simp
instance:EntC Try.prog 95:=⟨ent95⟩
theorem ent96:Enters Try.prog 96:=fun args w=>by go_simp
instance:EntC Try.prog 96:=⟨ent96⟩
theorem ent97:Enters Try.prog 97:=fun args w=>by go_simp
instance:EntC Try.prog 97:=⟨ent97⟩
theorem ent98:Enters Try.prog 98:=fun args w=>by go_simp
instance:EntC Try.prog 98:=⟨ent98⟩
theorem ent99:Enters Try.prog 99:=fun args w=>by go_simp
instance:EntC Try.prog 99:=⟨ent99⟩
theorem ent100:Enters Try.prog 100:=fun args w=>by go_simp
instance:EntC Try.prog 100:=⟨ent100⟩
theorem ent101:Enters Try.prog 101:=fun args w=>by go_simp
instance:EntC Try.prog 101:=⟨ent101⟩
theorem ent102:Enters Try.prog 102:=fun args w=>by go_simp
instance:EntC Try.prog 102:=⟨ent102⟩
theorem ent104:Enters Try.prog 104:=fun args w=>by go_simp
instance:EntC Try.prog 104:=⟨ent104⟩
theorem ent105:Enters Try.prog 105:=fun args w=>by go_simp
instance:EntC Try.prog 105:=⟨ent105⟩
theorem ent106:Enters Try.prog 106:=fun args w=>by go_simp
instance:EntC Try.prog 106:=⟨ent106⟩
theorem ent107:Enters Try.prog 107:=fun args w=>by go_simp
instance:EntC Try.prog 107:=⟨ent107⟩
theorem ent110:Enters Try.prog 110:=fun args w=>by go_simp
instance:EntC Try.prog 110:=⟨ent110⟩
theorem ent116:Enters Try.prog 116:=fun args w=>by go_simp
instance:EntC Try.prog 116:=⟨ent116⟩
theorem ent117:Enters Try.prog 117:=fun args w=>by go_simp
instance:EntC Try.prog 117:=⟨ent117⟩
theorem ent118:Enters Try.prog 118:=fun args w=>by go_simp
instance:EntC Try.prog 118:=⟨ent118⟩
theorem ent119:Enters Try.prog 119:=fun args w=>by go_simp
instance:EntC Try.prog 119:=⟨ent119⟩
theorem ent120:Enters Try.prog 120:=fun args w=>by go_simp
instance:EntC Try.prog 120:=⟨ent120⟩
theorem ent121:Enters Try.prog 121:=fun args w=>by go_simp
instance:EntC Try.prog 121:=⟨ent121⟩
theorem ent122:Enters Try.prog 122:=fun args w=>by go_simp
instance:EntC Try.prog 122:=⟨ent122⟩
theorem ent123:Enters Try.prog 123:=fun args w=>by go_simp
instance:EntC Try.prog 123:=⟨ent123⟩
theorem ent124:Enters Try.prog 124:=fun args w=>by go_simp
instance:EntC Try.prog 124:=⟨ent124⟩
theorem ent126:Enters Try.prog 126:=fun args w=>by go_simp
instance:EntC Try.prog 126:=⟨ent126⟩
theorem ent130:Enters Try.prog 130:=fun args w=>by go_simp
instance:EntC Try.prog 130:=⟨ent130⟩
theorem ent131:Enters Try.prog 131:=fun args w=>by go_simp
instance:EntC Try.prog 131:=⟨ent131⟩
theorem ent133:Enters Try.prog 133:=fun args w=>by go_simp
instance:EntC Try.prog 133:=⟨ent133⟩
instance:TyPtr Try.prog 29 96:=⟨by kernel_rfl⟩
end Go.Proofs.Ytichhfbkhnimmaa
