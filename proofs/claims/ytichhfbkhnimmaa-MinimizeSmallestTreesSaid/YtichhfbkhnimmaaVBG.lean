/- Trees that reach a state, plainly: the least one. No condition. -/
import Derived.Test.YtichhfbkhnimmaaVMJ
set_option linter.unusedSimpArgs false
set_option linter.unusedVariables false
set_option maxHeartbeats 400000
namespace Go.Mn
open Go Go.Rt
theorem cn_ {s:Int} {l:List Tr} {t:Tr} (h:t∈l):aw_ t<aw_ (.node s l):=by
 obtain⟨i,hi⟩:=List.getElem?_of_mem h
 have:=l8_ hi
 rw [aq_];omega
theorem jj_ {s:Int} {l:List Tr} (h:aw_ (.node s l)≤4096):bb_ 1 l=(aw_ (.node s l):Int):=by
 have:=hn_ (.node s l) (by omega)
 rw [dg_] at this
 exact this
theorem gx_ {s s':Int} {l l':List Tr} (h:aw_ (.node s l)≤4096) (h':aw_ (.node s' l')≤4096):cmpT (.node s l) (.node s' l')<0↔aw_ (.node s l)<aw_ (.node s' l')∨(aw_ (.node s l)=aw_ (.node s' l')∧(s<s'∨(s=s'∧(l.length<l'.length∨(l.length=l'.length∧cmpL l l'<0))))):=by
 rw [ua_,jj_ h,jj_ h']
 constructor
 ·rintro (h1| ⟨h1,h2⟩)
  ·exact .inl (by omega)
  ·exact .inr ⟨by omega,h2⟩
 ·rintro (h1| ⟨h1,h2⟩)
  ·exact .inl (by omega)
  ·exact .inr ⟨by omega,h2⟩
def leT (t u:Tr):Prop:=cmpT t u≤0
theorem gg_ (t:Tr):leT t t:=by unfold leT;rw [ed_];omega
theorem r9_ {t u v:Tr} (h:leT t u) (k:leT u v):leT t v:=lq_ h k
theorem pb_ {t u:Tr} (h:leT t u):cmpT t u<0∨t=u:=by
 unfold leT at h
 by_cases e:cmpT t u=0
 ·exact .inr (gv_ _ _ e)
 ·exact .inl (by omega)
theorem fb_ {t u:Tr} (h:leT t u) (k:leT u t):t=u:=by
 unfold leT at h k
 rw [i5_] at k
 exact gv_ _ _ (by omega)
theorem e5_ (t u:Tr):leT t u∨cmpT u t<0:=by
 unfold leT
 rw [i5_ t u]
 omega
theorem zx_ {t u v:Tr} (h:cmpT t u<0) (k:leT u v):cmpT t v<0:=by
 rcases pb_ k with k|rfl
 ·exact fi_ _ _ _ h k
 ·exact h
theorem lt_ {t u:Tr} (ht:aw_ t≤4096) (hu:aw_ u≤4096) (h:leT t u):aw_ t≤aw_ u:=by
 rcases pb_ h with h|rfl
 ·obtain⟨s,l⟩:=t
  obtain⟨s',l'⟩:=u
  rcases (gx_ ht hu).1 h with h| ⟨h,_⟩ <;> omega
 ·exact Nat.le_refl _
def leTL:List Tr→List Tr→Prop
 | [],[]=>True
 |t::ts,u::us=>leT t u∧leTL ts us
 |_,_=>False
theorem p4_:∀ {l l':List Tr},leTL l l'→l.length=l'.length
 | [],[],_=>rfl
 |t::ts,u::us,h=>by rw [List.length_cons,List.length_cons,p4_ h.2]
 | [],_::_,h=>h.elim
 |_::_,[],h=>h.elim
theorem l3_:∀ {l l':List Tr},leTL l l'→(∀ t∈l,aw_ t≤4096)→(∀ t∈l',aw_ t≤4096)→bm_ l≤bm_ l'
 | [],[],_,_,_=>Nat.le_refl _
 |t::ts,u::us,h,h1,h2=>by
  have a:=lt_ (h1 t (by simp)) (h2 u (by simp)) h.1
  have b:=l3_ h.2 (fun x hx=>h1 x (List.mem_cons_of_mem _ hx)) (fun x hx=>h2 x (List.mem_cons_of_mem _ hx))
  rw [bz_,bz_];omega
 | [],_::_,h,_,_=>h.elim
 |_::_,[],h,_,_=>h.elim
theorem qb_:∀ {l l':List Tr},leTL l l'→cmpL l l'<0∨l=l'
 | [],[],_=> .inr rfl
 |t::ts,u::us,h=>by
  rcases pb_ h.1 with h1|rfl
  ·exact .inl (nm_.2 (.inl h1))
  ·rcases qb_ h.2 with h2|rfl
   ·exact .inl (nm_.2 (.inr ⟨rfl,h2⟩))
   ·exact .inr rfl
 | [],_::_,h=>h.elim
 |_::_,[],h=>h.elim
theorem l1_ {s:Int} {l l':List Tr} (h:leTL l l') (h1:aw_ (.node s l')≤4096) (h2:∀ t∈l,aw_ t≤4096):aw_ (.node s l)≤4096∧leT (.node s l) (.node s l'):=by
 have hs:=l3_ h h2 fun t ht=>by have:=cn_ (s:=s) ht;omega
 have h3:aw_ (.node s l)≤aw_ (.node s l'):=by rw [aq_,aq_];omega
 refine⟨by omega,?_⟩
 rcases qb_ h with h4|rfl
 ·unfold leT
  refine Int.le_of_lt ((gx_ (by omega) h1).2 ?_)
  by_cases e:aw_ (.node s l)=aw_ (.node s l')
  ·exact .inr ⟨e,.inr ⟨rfl,.inr ⟨p4_ h,h4⟩⟩⟩
  ·exact .inl (by omega)
 ·exact gg_ _
def tupT (T:List Tr):Nat→List (List Tr)
 |0=> [[]]
 |k+1=>T.flatMap fun t=>(tupT T k).map fun l=>t::l
def allT (r:List Int):Nat→List Tr
 |0=> []
 |k+1=>(List.range r.length).flatMap fun s=>(tupT (allT r k) (r.getD s 0).toNat).map fun l=> .node (s:Int) l
theorem pi_ {T:List Tr}:∀ {l:List Tr},(∀ t∈l,t∈T)→l∈tupT T l.length
 | [],_=>by simp [tupT]
 |t::ts,h=>List.mem_flatMap.2 ⟨t,h t (by simp),List.mem_map.2 ⟨ts,pi_ fun x hx=>h x (List.mem_cons_of_mem _ hx),rfl⟩⟩
theorem ov_ {r:List Int}:∀ (k:Nat) (t:Tr),aw_ t≤k→nodesE r t=0→t∈allT r k
 |0,t,h,_=>by have:=sl_ t;omega
 |k+1,.node s l,h,hn=>by
  obtain⟨h1,h2,h3,h4⟩:=bl_ hn
  obtain⟨m,rfl⟩:=Int.eq_ofNat_of_zero_le h1
  refine List.mem_flatMap.2 ⟨m,List.mem_range.2 (by omega),List.mem_map.2 ⟨l,?_,rfl⟩⟩
  rw [Int.toNat_natCast] at h3
  rw [← h3,Int.toNat_natCast]
  exact pi_ fun t ht=>ov_ k t (by have:=cn_ (s:=(m:Int)) ht;omega) (dk_ h4 t ht)
theorem ht_ {α:Type} {p q:α→Bool} {x:α}:∀ {l:List α},(∀ y,p y=true→q y=true)→x∈l→p x=false→q x=true→l.countP p<l.countP q
 |y::ys,h,hx,h1,h2=>by
  have hle:ys.countP p≤ys.countP q:=List.countP_mono_left fun z _=>h z
  rw [List.countP_cons,List.countP_cons]
  rcases List.mem_cons.1 hx with rfl|hx
  ·rw [h1,h2]
   show _+0<_+1
   omega
  ·have ih:=ht_ h hx h1 h2
   by_cases e:p y=true
   ·rw [if_pos e,if_pos (h y e)];omega
   ·rw [if_neg e];omega
def rkT (r:List Int) (t:Tr):Nat:=(allT r 4096).countP fun u=>decide (cmpT u t<0)
theorem t7_ {r:List Int} {t u:Tr} (ht:aw_ t≤4096) (hn:nodesE r t=0) (h:cmpT t u<0):rkT r t<rkT r u:=by
 refine ht_ (x:=t) (fun y hy=>?_) (ov_ _ t ht hn) ?_ ?_
 ·exact decide_eq_true (fi_ _ _ _ (of_decide_eq_true hy) h)
 ·exact decide_eq_false (by rw [ed_];omega)
 ·exact decide_eq_true h
theorem ws_ (r:List Int) (t:Tr):rkT r t≤(allT r 4096).length:=List.countP_le_length
structure Reach (A:Au) (q:Int) (t:Tr):Prop where
 n:nodesE A.r t=0
 s:a0_ A t=q
 z:aw_ t≤4096
def Best (A:Au) (q:Int) (t:Tr):Prop:=Reach A q t∧ ∀ u,Reach A q u→leT t u
theorem Best.uniq {A:Au} {q:Int} {t u:Tr} (h:Best A q t) (k:Best A q u):t=u:=fb_ (h.2 u k.1) (k.2 t h.1)
theorem tk_ {A:Au} {q:Int} {t:Tr} (h:Reach A q t):∃ u,Best A q u:=by
 have key:∀ n t,rkT A.r t≤n→Reach A q t→ ∃ u,Best A q u:=by
  intro n
  induction n with
  |zero=>
   intro t hn ht
   refine⟨t,ht,fun u hu=>?_⟩
   rcases e5_ t u with h|h
   ·exact h
   ·have:=t7_ hu.z hu.n h;omega
  |succ  n ih=>
   intro t hn ht
   by_cases hb:∀ u,Reach A q u→leT t u
   ·exact⟨t,ht,hb⟩
   ·    obtain⟨u,hu⟩:=Classical.not_forall.1 hb
        obtain⟨hu,hl⟩:=Classical.not_imp.1 hu
        have:cmpT u t<0:=(e5_ t u).resolve_left hl
        exact ih u (by have:=t7_ hu.z hu.n this;omega) hu
 exact key _ t (Nat.le_refl _) h
theorem pk_ {r:List Int} {s:Nat} {l:List Tr} (hs:r[s]?=some (l.length:Int)) (hl:∀ t∈l,nodesE r t=0):nodesE r (.node s l)=0:=by
 have hsr:=(List.getElem?_eq_some_iff.1 hs).1
 rw [nodesE,if_neg (by omega),if_neg ?_]
 ·have   :∀ l:List Tr,(∀ t∈l,nodesE r t=0)→bf_ r l=0:=by
   intro l
   induction l with
   |nil=>intro _;rw [bf_]
   |    cons t ts ih=>
        intro h
        rw [bf_,if_neg (by have:=h t (by simp);omega)]
        exact ih fun x hx=>h x (List.mem_cons_of_mem _ hx)
  exact this l hl
 ·rw [Int.toNat_natCast,List.getD_eq_getElem?_getD,hs];simp
theorem yj_ {r:List Int} {s:Int} {l:List Tr} (h:nodesE r (.node s l)=0):∃ i:Nat,s=i∧r[i]?=some (l.length:Int)∧bf_ r l=0:=by
 obtain⟨h1,h2,h3,h4⟩:=bl_ h
 obtain⟨m,rfl⟩:=Int.eq_ofNat_of_zero_le h1
 have hm:m<r.length:=by omega
 refine⟨m,rfl,?_,h4⟩
 rw [Int.toNat_natCast,List.getD_eq_getElem?_getD,List.getElem?_eq_getElem hm] at h3
 rw [List.getElem?_eq_getElem hm,h3];rfl
theorem mc_ {A:Au} {q:Int} {s:Int} {l:List Tr} (h:Best A q (.node s l)):∀ t∈l,Best A (a0_ A t) t:=by
  obtain⟨⟨hn,hs,hz⟩,hb⟩:=h
  obtain⟨i,rfl,hr,hl⟩:=yj_ hn
  intro t ht
  have hzt:=cn_ (s:=(i:Int)) ht
  refine⟨⟨dk_ hl t ht,rfl,by omega⟩,fun u hu=>?_⟩
  rcases e5_ t u with h|h
  ·exact h
  · exfalso
    obtain⟨a,b,rfl⟩:=List.append_of_mem ht
    have hle :leTL (a++u::b) (a++t::b):=by
      have : ∀ a:List Tr,leTL (a++u::b) (a++t::b):=by
        intro a
        induction a with
        | nil=>
          refine⟨Int.le_of_lt h,?_⟩
          have:∀ b:List Tr,leTL b b:=by
            intro b
            induction b with
            |nil=>trivial
            |cons x xs ih=>exact⟨gg_ x,ih⟩
          exact this b
        |cons x xs ih=>exact⟨gg_ x,ih⟩
      exact this a
    have hus:∀ x∈a++u::b,nodesE A.r x=0∧aw_ x≤4096:=fun x hx=>by
      rcases List.mem_append.1 hx with hx|hx
      · have hm:x∈a++t::b:=List.mem_append_left _ hx
        exact⟨dk_ hl x hm,by have:=cn_ (s:=(i:Int)) hm;omega⟩
      · rcases List.mem_cons.1 hx with rfl|hx
        ·exact⟨hu.n,hu.z⟩
        · have hm:x∈a++t::b:=List.mem_append_right _ (List.mem_cons_of_mem _ hx)
          exact⟨dk_ hl x hm,by have:=cn_ (s:=(i:Int)) hm;omega⟩
    obtain⟨k1,k2⟩:=l1_ (s:=(i:Int)) hle hz fun x hx=>(hus x hx).2
    have hlen:(a++u::b).length=(a++t::b).length:=by simp
    have hst:a0_ A (.node i (a++u::b))=q:=by
      rw [← hs,bo_,bo_]
      congr 1
      rw [bd_,bd_,List.map_append,List.map_append,List.map_cons,List.map_cons,hu.s]
    have:=hb (.node i (a++u::b)) ⟨pk_ (by rw [hlen];exact hr) fun x hx=>(hus x hx).1,hst,k1⟩
    have e:=fb_ this k2
    injection e with _ e
    have e:=List.append_cancel_left e
    injection e with e _
    rw [e,ed_] at h
    omega
end Go.Mn
namespace Go.Mn
open Go Go.Rt
theorem tj_ {A:Au} {reps:List Int} (hk:chk A=0) (h:RepsOk A reps) {d:Nat} (hd:d<reps.length):(d:Int)∈ad_ (quoA A reps):=my_ hk h ⟨by omega,by omega⟩
theorem q3_ {A:Au} {reps:List Int} (hk:chk A=0) (h:RepsOk A reps):PermOk (quoA A reps).f.length (ad_ (quoA A reps)):=by
 have hqo:=jp_ hk h
 have hnd:=wc_ hqo
 have hrng:∀ x∈ad_ (quoA A reps),0≤x∧x<((quoA A reps).f.length:Int):=fun x hx=>b0_ hqo hx
 have h1:=dj_ _ _ hnd hrng
 have h2:=m0_ (quoA A reps).f.length (ad_ (quoA A reps)) fun i hi=>my_ hk h ⟨by omega,by rw [k5_] at hi;omega⟩
 exact⟨by omega,hnd,hrng⟩
end Go.Mn
namespace Go.Mn
open Go Go.Rt
def opsN (n k at_:Nat):List Nat:=if k=0 then [] else if k=1 then [at_] else [at_ / n,at_ % n]
def rankN (A:Au) (i:Nat):Nat:=(A.r.getD i 0).toNat
def rowN (A:Au) (i:Nat):List Int:=A.to.getD i []
def succN (A:Au) (i at_:Nat):Nat:=((rowN A i).getD at_ 0).toNat
theorem bg_ {A:Au} (hok:AuOk A) {i:Nat} (hi:i<A.r.length):rankN A i≤2∧A.r[i]?=some ((rankN A i:Nat):Int):=by
 obtain⟨r1,r2,r3⟩:=iu_ hok hi
 exact⟨r2,r1⟩
theorem bq_ {A:Au} (hok:AuOk A) {i:Nat} (hi:i<A.r.length):A.to[i]?=some (rowN A i)∧(rowN A i).length=A.f.length ^ rankN A i∧ ∀ (p:Nat) (s:Int),(rowN A i)[p]?=some s→s=((succN A i p:Nat):Int)∧succN A i p<A.f.length:=by
 have h1:A.to[i]?=some (rowN A i):=by
  unfold rowN
  rw [List.getD_eq_getElem?_getD,List.getElem?_eq_getElem (by rw [hok.len];exact hi)];rfl
 obtain⟨r1,r2⟩:=bg_ hok hi
 refine⟨h1,?_,fun p s hp=>?_⟩
 ·have:=hok.wide i _ _ h1 r2
  rw [this];unfold ba_;rw [Int.toNat_natCast]
 ·have hr:=hok.rng _ (List.mem_of_getElem? h1) s (List.mem_of_getElem? hp)
  unfold succN
  rw [List.getD_eq_getElem?_getD,hp,Option.getD_some]
  omega
theorem qy_ {n:Nat} {ds:List Int} (hl:ds.length≤2) (hd:∀ d∈ds,0≤d∧d<(n:Int)):opsN n ds.length (ar_ n ds).toNat=ds.map Int.toNat∧(ar_ n ds).toNat<n ^ ds.length:=by
 match ds,hl with
 | [],_=>exact⟨rfl,by show (0:Nat)<n ^ 0;simp⟩
 | [x],_=>
   obtain⟨h1,h2⟩:=hd x (by simp)
   have e:ar_ n [x]=x:=by show 0*(n:Int)+x=x;omega
   rw [e]
   refine⟨rfl,?_⟩
   show x.toNat<n ^ 1
   rw [Nat.pow_one];omega
 | [x,y],_=>
   obtain⟨h1,h2⟩:=hd x (by simp)
   obtain⟨h3,h4⟩:=hd y (by simp)
   obtain⟨a,rfl⟩:=Int.eq_ofNat_of_zero_le h1
   obtain⟨b,rfl⟩:=Int.eq_ofNat_of_zero_le h3
   have e:ar_ n [(a:Int),(b:Int)]=((a*n+b:Nat):Int):=by
    show (0*(n:Int)+(a:Int))*(n:Int)+(b:Int)=_
    rw [Int.zero_mul,Int.zero_add,Int.natCast_add,Int.natCast_mul]
   have hb:b<n:=by omega
   have ha:a<n:=by omega
   rw [e,Int.toNat_natCast]
   constructor
   ·show [(a*n+b) / n,(a*n+b) % n]=[(a:Int).toNat,(b:Int).toNat]
    rw [show (a*n+b) / n=a by rw [Nat.mul_comm,Nat.mul_add_div (by omega),Nat.div_eq_of_lt hb,Nat.add_zero],show (a*n+b) % n=b by rw [Nat.mul_comm,Nat.mul_add_mod,Nat.mod_eq_of_lt hb],Int.toNat_natCast,Int.toNat_natCast]
   ·show a*n+b<n ^ 2
    have:(a+1)*n≤n*n:=Nat.mul_le_mul_right _ ha
    rw [Nat.add_mul,Nat.one_mul] at this
    rw [Nat.pow_two];omega
theorem og_ {n k at_:Nat} (hk:k≤2) (h:at_<n ^ k):∀ o∈opsN n k at_,o<n:=by
 intro o ho
 unfold opsN at ho
 rcases (show k=0∨k=1∨k=2 by omega) with rfl|rfl|rfl
 ·cases ho
 ·rw [if_neg (by decide),if_pos rfl,List.mem_singleton] at ho
  rw [Nat.pow_one] at h;omega
 ·rw [if_neg (by decide),if_neg (by decide)] at ho
  rw [Nat.pow_two] at h
  have hn:0<n:=Nat.pos_of_ne_zero fun e=>by subst e;omega
  simp only [List.mem_cons,List.not_mem_nil,or_false] at ho
  rcases ho with rfl|rfl
  ·exact Nat.div_lt_of_lt_mul h
  ·exact Nat.mod_lt _ hn
theorem dx_ {A:Au} (hok:AuOk A) {s:Int} {l:List Tr} (h:nodesE A.r (.node s l)=0):∃ i at_:Nat,s=i∧i<A.r.length∧at_<(rowN A i).length∧opsN A.f.length (rankN A i) at_=(ay_ A l).map Int.toNat∧succN A i at_=(a0_ A (.node s l)).toNat∧rankN A i=l.length:=by
 obtain⟨h1,h2,h3,h4⟩:=bl_ h
 obtain⟨i,rfl⟩:=Int.eq_ofNat_of_zero_le h1
 have hi:i<A.r.length:=by omega
 obtain⟨r1,r2⟩:=bg_ hok hi
 have hrl:rankN A i=l.length:=by
  unfold rankN
  rw [Int.toNat_natCast] at h3
  omega
 have hsl:(ay_ A l).length=l.length:=by rw [bd_,List.length_map]
 obtain⟨p1,p2⟩:=qy_ (n:=A.f.length) (ds:=ay_ A l) (by omega) (ei_ hok l h4)
 obtain⟨q1,q2,q3⟩:=bq_ hok hi
 refine⟨i,(ar_ A.f.length (ay_ A l)).toNat,rfl,hi,by rw [q2,hrl,← hsl];exact p2,by rw [hrl,← hsl];exact p1,?_,hrl⟩
 rw [bo_]
 unfold succN atI rowN
 rw [Int.toNat_natCast]
def ip_ (A:Au) (K:Nat→Prop):Prop:= ∀ i at_:Nat,i<A.r.length→at_<(rowN A i).length→(∀ o∈opsN A.f.length (rankN A i) at_,K o)→K (succN A i at_)
mutual
theorem h4_ {A:Au} (hok:AuOk A) {K:Nat→Prop} (h:ip_ A K):∀ t:Tr,nodesE A.r t=0→K (a0_ A t).toNat
 | .node s l,hn=>by
   obtain⟨i,a,rfl,h1,h2,h3,h4,h5⟩:=dx_ hok hn
   rw [← h4]
   refine h i a h1 h2 fun o ho=>?_
   rw [h3] at ho
   obtain⟨x,hx,rfl⟩:=List.mem_map.1 ho
   exact he_ hok h l (bl_ hn).2.2.2 x hx
theorem he_ {A:Au} (hok:AuOk A) {K:Nat→Prop} (h:ip_ A K):∀ l:List Tr,bf_ A.r l=0→ ∀ x∈ay_ A l,K x.toNat
 | [],_,x,hx=>by rw [ay_] at hx;cases hx
 |t::ts,hn,x,hx=>by
  obtain⟨h1,h2⟩:=cd_ hn
  rw [ay_] at hx
  rcases List.mem_cons.1 hx with rfl|hx
  ·exact h4_ hok h t h1
  ·exact he_ hok h ts h2 x hx
end
theorem mi_ {A:Au} (hok:AuOk A) {K:Nat→Prop} (h:ip_ A K) {x:Int} (hx:x∈ad_ A):K x.toNat:=by
 obtain⟨t,h1,rfl⟩:=jq_ hok hx
 exact h4_ hok h t h1
def sumN (sz:Nat→Nat) (l:List Nat):Nat:=(l.map sz).sum
structure SizeIn (A:Au) (sz:Nat→Nat):Prop where
 le:∀ x,x<A.f.length→sz x≤4097
 by_:∀ x,x<A.f.length→sz x≠4097→ ∃ t,Reach A (x:Int) t∧aw_ t=sz x
def lo_ (A:Au) (sz:Nat→Nat):Prop:= ∀ i at_:Nat,i<A.r.length→at_<(rowN A i).length→sz (succN A i at_)≤1+sumN sz (opsN A.f.length (rankN A i) at_)
theorem lf_ {A:Au} (hok:AuOk A) {P:Nat→Tr→Prop} {i at_:Nat} (hi:i<A.r.length) (ha:at_<(rowN A i).length) {l:List Tr} (hl:l.length=(opsN A.f.length (rankN A i) at_).length) (hr:∀ (j:Nat) (o:Nat) (t:Tr),(opsN A.f.length (rankN A i) at_)[j]?=some o→l[j]?=some t→nodesE A.r t=0∧a0_ A t=(o:Int)):nodesE A.r (.node i l)=0∧a0_ A (.node i l)=((succN A i at_:Nat):Int):=by
 obtain⟨r1,r2⟩:=bg_ hok hi
 obtain⟨q1,q2,q3⟩:=bq_ hok hi
 have hk:(opsN A.f.length (rankN A i) at_).length=rankN A i:=by
  unfold opsN
  rcases (show rankN A i=0∨rankN A i=1∨rankN A i=2 by omega) with e|e|e <;> rw [e] <;> simp
 have hn:nodesE A.r (.node i l)=0:=pk_ (by rw [r2,hl,hk]) fun t ht=>by
  obtain⟨j,hj⟩:=List.getElem?_of_mem ht
  have hjl:=(List.getElem?_eq_some_iff.1 hj).1
  exact (hr j _ t (List.getElem?_eq_getElem (by omega)) hj).1
 refine⟨hn,?_⟩
 have hst:(ay_ A l).map Int.toNat=opsN A.f.length (rankN A i) at_:=by
  apply List.ext_getElem?
  intro j
  rw [bd_,List.getElem?_map,List.getElem?_map]
  rcases Nat.lt_or_ge j l.length with hj|hj
  ·have h1:=List.getElem?_eq_getElem hj
   have h2:=List.getElem?_eq_getElem (l:=opsN A.f.length (rankN A i) at_) (i:=j) (by omega)
   rw [h1,h2]
   show some (a0_ A l[j]).toNat=_
   rw [(hr j _ _ h2 h1).2,Int.toNat_natCast]
  ·rw [List.getElem?_eq_none hj,List.getElem?_eq_none (by omega)];rfl
 obtain⟨i',a',e,h1,h2,h3,h4,h5⟩:=dx_ hok hn
 obtain rfl:i=i':=by omega
 rw [hst] at h3
 have ha':a'=at_:=by
  unfold opsN at h3
  rw [q2] at ha h2
  rcases (show rankN A i=0∨rankN A i=1∨rankN A i=2 by omega) with e|e|e
  ·rw [e,Nat.pow_zero] at ha h2;omega
  ·rw [e] at h3
   simp only [Nat.one_ne_zero,if_false,if_true,List.cons.injEq,and_true] at h3
   exact h3
  ·rw [e] at h3
   rw [if_neg (by decide),if_neg (by decide),if_neg (by decide),if_neg (by decide)] at h3
   simp only [List.cons.injEq,and_true] at h3
   have e1:=Nat.div_add_mod a' A.f.length
   have e2:=Nat.div_add_mod at_ A.f.length
   rw [h3.1,h3.2] at e1
   omega
 subst ha'
 have hrng:=i8_ hok _ hn
 rw [h4];omega
mutual
theorem t6_ {A:Au} (hok:AuOk A) {sz:Nat→Nat} (h:lo_ A sz):∀ t:Tr,nodesE A.r t=0→sz (a0_ A t).toNat≤aw_ t
 | .node s l,hn=>by
   obtain⟨i,a,rfl,h1,h2,h3,h4,h5⟩:=dx_ hok hn
   have h6:=h i a h1 h2
   rw [h4,h3] at h6
   have h7:=py_ hok h l (bl_ hn).2.2.2
   rw [aq_]
   unfold sumN at h6
   omega
theorem py_ {A:Au} (hok:AuOk A) {sz:Nat→Nat} (h:lo_ A sz):∀ l:List Tr,bf_ A.r l=0→(((ay_ A l).map Int.toNat).map sz).sum≤bm_ l
 | [],_=>by rw [ay_];exact Nat.zero_le _
 |t::ts,hn=>by
  obtain⟨h1,h2⟩:=cd_ hn
  have a:=t6_ hok h t h1
  have b:=py_ hok h ts h2
  rw [ay_,bz_,List.map_cons,List.map_cons,List.sum_cons]
  omega
end
structure SizeOk (A:Au) (sz:Nat→Nat):Prop where
 in_:SizeIn A sz
 lo:∀ (x:Nat) (t:Tr),x<A.f.length→Reach A (x:Int) t→sz x≤aw_ t
theorem SizeOk.of {A:Au} (hok:AuOk A) {sz:Nat→Nat} (h1:SizeIn A sz) (h2:lo_ A sz):SizeOk A sz:=⟨h1,fun x t hx ht=>by
 have:=t6_ hok h2 t ht.n
 rwa [ht.s,Int.toNat_natCast] at this⟩
theorem SizeOk.best {A:Au} {sz:Nat→Nat} (h:SizeOk A sz) {x:Nat} {t:Tr} (hx:x<A.f.length) (hb:Best A (x:Int) t):aw_ t=sz x:=by
 have h1:=h.lo x t hx hb.1
 have h2:=hb.1.z
 obtain⟨u,hu,e⟩:=h.in_.by_ x hx (by omega)
 have:=lt_ hb.1.z hu.z (hb.2 u hu)
 omega
theorem SizeOk.ex {A:Au} {sz:Nat→Nat} (h:SizeOk A sz) {x:Nat} (hx:x<A.f.length):sz x<4097↔ ∃ t,Best A (x:Int) t:=by
 constructor
 ·intro hlt
  obtain⟨t,ht,_⟩:=h.in_.by_ x hx (by omega)
  exact tk_ ht
 ·rintro⟨t,ht⟩
  have:=h.best hx ht
  have:=ht.1.z
  omega
def ec_ (A:Au) (sz:Nat→Nat) (B:Nat→Tr) (s i:Nat):List Tr:=((List.range (rowN A i).length).filter fun a=>decide (succN A i a=s∧1+sumN sz (opsN A.f.length (rankN A i) a)=sz s)).map fun a=> .node (i:Int) ((opsN A.f.length (rankN A i) a).map B)
theorem ig_ {A:Au} {sz:Nat→Nat} {B:Nat→Tr} {s i:Nat} {t:Tr}:t∈ec_ A sz B s i↔ ∃ a,a<(rowN A i).length∧succN A i a=s∧1+sumN sz (opsN A.f.length (rankN A i) a)=sz s∧t= .node (i:Int) ((opsN A.f.length (rankN A i) a).map B):=by
 unfold ec_
 rw [List.mem_map]
 constructor
 ·rintro⟨a,ha,rfl⟩
  rw [List.mem_filter,List.mem_range,decide_eq_true_iff] at ha
  exact⟨a,ha.1,ha.2.1,ha.2.2,rfl⟩
 ·rintro⟨a,h1,h2,h3,rfl⟩
  exact⟨a,by rw [List.mem_filter,List.mem_range,decide_eq_true_iff];exact⟨h1,h2,h3⟩,rfl⟩
theorem nz_ {sz:Nat→Nat}:∀ {l:List Nat} {o:Nat},o∈l→sz o≤sumN sz l
 |x::xs,o,h=>by
  show _≤sz x+sumN sz xs
  rcases List.mem_cons.1 h with rfl|h
  ·omega
  ·have:=nz_ (sz:=sz) h;omega
theorem hl_ {sz:Nat→Nat} {B:Nat→Tr}:∀ {l:List Nat},(∀ o∈l,aw_ (B o)=sz o)→bm_ (l.map B)=sumN sz l
 | [],_=>by rw [List.map_nil,ql_];rfl
 |x::xs,h=>by
  show _=sz x+sumN sz xs
  rw [List.map_cons,bz_,h x (by simp),hl_ fun o ho=>h o (List.mem_cons_of_mem _ ho)]
section
variable {A:Au} {sz:Nat→Nat} {B:Nat→Tr} {s:Nat}
theorem g5_ (hok:AuOk A) (hz:SizeOk A sz) (hs:s<A.f.length) (hz2:sz s≤4096) (hB:∀ x,x<A.f.length→sz x<sz s→Best A (x:Int) (B x)) {i:Nat} (hi:i<A.r.length) {t:Tr} (ht:t∈ec_ A sz B s i):Reach A (s:Int) t∧aw_ t=sz s:=by
 obtain⟨a,h1,h2,h3,rfl⟩:=ig_.1 ht
 obtain⟨r1,r2⟩:=bg_ hok hi
 obtain⟨q1,q2,q3⟩:=bq_ hok hi
 have hops:=og_ (n:=A.f.length) r1 (by rw [← q2];exact h1)
 have hb:∀ o∈opsN A.f.length (rankN A i) a,Best A (o:Int) (B o):=fun o ho=>hB o (hops o ho) (by have:=nz_ (sz:=sz) ho;omega)
 obtain⟨e1,e2⟩:=lf_ (P:=fun _ _=>True) hok hi h1 (l:=(opsN A.f.length (rankN A i) a).map B) (by rw [List.length_map]) fun j o t ho ht=>by
  rw [List.getElem?_map,ho] at ht
  obtain rfl:=Option.some.inj ht
  have:=(hb o (List.mem_of_getElem? ho)).1
  exact⟨this.n,this.s⟩
 have e3:aw_ (.node (i:Int) ((opsN A.f.length (rankN A i) a).map B))=sz s:=by
  rw [aq_,hl_ (sz:=sz) fun o ho=>hz.best (hops o ho) (hb o ho)];omega
 exact⟨⟨e1,by rw [e2,h2],by omega⟩,e3⟩
theorem s7_ (hok:AuOk A) (hz:SizeOk A sz) (hs:s<A.f.length) (hz2:sz s≤4096) (hB:∀ x,x<A.f.length→sz x<sz s→Best A (x:Int) (B x)) {t:Tr} (ht:Best A (s:Int) t):∃ i,i<A.r.length∧t∈ec_ A sz B s i∧(∀ j,j<i→ec_ A sz B s j=[])∧ ∀ u∈ec_ A sz B s i,leT t u:=by
 obtain⟨y,l⟩:=t
 obtain⟨i,a,e,h1,h2,h3,h4,h5⟩:=dx_ hok ht.1.n
 subst e
 have hst:=ht.1.s
 rw [hst,Int.toNat_natCast] at h4
 have hsz:=hz.best hs ht
 have hkids:=mc_ ht
 have hl:∀ t∈l,(a0_ A t).toNat<A.f.length∧((a0_ A t).toNat:Int)=a0_ A t:=fun t htl=>by
  have:=i8_ hok t (hkids t htl).1.n
  omega
 have hszk:∀ t∈l,aw_ t=sz (a0_ A t).toNat:=fun t htl=>hz.best (hl t htl).1 (by rw [(hl t htl).2];exact hkids t htl)
 have hBk:∀ t∈l,B (a0_ A t).toNat=t:=fun t htl=>by
  refine (hB _ (hl t htl).1 ?_).uniq (by rw [(hl t htl).2];exact hkids t htl)
  rw [← hszk t htl,← hsz]
  exact cn_ htl
 have hops:(opsN A.f.length (rankN A i) a).map B=l:=by
  rw [h3,bd_,List.map_map,List.map_map]
  calc l.map (B ∘ Int.toNat ∘ a0_ A)=l.map id:=List.map_congr_left fun t htl=>hBk t htl
   _=l:=List.map_id l
 have hsum:1+sumN sz (opsN A.f.length (rankN A i) a)=sz s:=by
  have:sumN sz (opsN A.f.length (rankN A i) a)=bm_ l:=by
   rw [← hl_ (B:=B) (l:=opsN A.f.length (rankN A i) a) (sz:=sz),hops]
   intro o ho
   rw [h3,bd_,List.map_map] at ho
   obtain⟨t,htl,rfl⟩:=List.mem_map.1 ho
   show aw_ (B (a0_ A t).toNat)=sz (a0_ A t).toNat
   rw [hBk t htl]
   exact hszk t htl
  rw [this,← hsz,aq_];omega
 have hmem:Tr.node (i:Int) l∈ec_ A sz B s i:=ig_.2 ⟨a,h2,h4,hsum,by rw [hops]⟩
 refine⟨i,h1,hmem,fun j hj=>?_,fun u hu=>?_⟩
 ·refine Classical.byContradiction fun hne=>?_
  obtain⟨u,hu⟩:=List.exists_mem_of_ne_nil _ hne
  obtain⟨g1,g2⟩:=g5_ hok hz hs hz2 hB (show j<A.r.length by omega) hu
  have hle:=ht.2 u g1
  obtain⟨a',b1,b2,b3,rfl⟩:=ig_.1 hu
  rcases pb_ hle with hlt|e
  ·rcases (gx_ (by omega) (by omega)).1 hlt with c| ⟨_,c| ⟨c,_⟩⟩ <;> omega
  ·injection e with e _;omega
 ·exact ht.2 u (g5_ hok hz hs hz2 hB h1 hu).1
end
structure TabIn (A:Au) (L:Nat→Option Tr):Prop where
 h:∀ q t,q<A.f.length→L q=some t→Reach A (q:Int) t
def pu_ (A:Au) (L:Nat→Option Tr):Prop:= ∀ i at_:Nat,i<A.r.length→at_<(rowN A i).length→ ∀ l:List Tr,(opsN A.f.length (rankN A i) at_).map L=l.map some→4096<aw_ (.node (i:Int) l)∨ ∃ u,L (succN A i at_)=some u∧leT u (.node (i:Int) l)
mutual
theorem s2_ {A:Au} (hok:AuOk A) {L:Nat→Option Tr} (hin:TabIn A L) (h:pu_ A L):∀ t:Tr,nodesE A.r t=0→aw_ t≤4096→ ∃ u,L (a0_ A t).toNat=some u∧leT u t
 | .node s l,hn,hz=>by
   obtain⟨i,a,rfl,h1,h2,h3,h4,h5⟩:=dx_ hok hn
   have hnl:=(bl_ hn).2.2.2
   obtain⟨m,hm,hle⟩:=t2_ hok hin h l hnl (fun t ht=>by have:=cn_ (s:=(i:Int)) ht;omega)
   have hmz:∀ t∈m,aw_ t≤4096:=fun t ht=>by
    have:some t∈(ay_ A l).map (fun x=>L x.toNat):=by rw [hm];exact List.mem_map_of_mem ht
    obtain⟨x,hx,e⟩:=List.mem_map.1 this
    have hx2:=ei_ hok l hnl x hx
    exact (hin.h x.toNat t (by omega) e).z
   obtain⟨k1,k2⟩:=l1_ (s:=(i:Int)) hle hz hmz
   rcases h i a h1 h2 m (by rw [h3,List.map_map];exact hm) with hbig| ⟨u,hu,hu2⟩
   ·omega
   ·rw [h4] at hu
    exact⟨u,hu,r9_ hu2 k2⟩
theorem t2_ {A:Au} (hok:AuOk A) {L:Nat→Option Tr} (hin:TabIn A L) (h:pu_ A L):∀ l:List Tr,bf_ A.r l=0→(∀ t∈l,aw_ t≤4096)→ ∃ m:List Tr,(ay_ A l).map (fun x=>L x.toNat)=m.map some∧leTL m l
 | [],_,_=>⟨[],by rw [ay_];rfl,trivial⟩
 |t::ts,hn,hz=>by
  obtain⟨h1,h2⟩:=cd_ hn
  obtain⟨u,hu,hle⟩:=s2_ hok hin h t h1 (hz t (by simp))
  obtain⟨m,hm,hlm⟩:=t2_ hok hin h ts h2 fun x hx=>hz x (List.mem_cons_of_mem _ hx)
  exact⟨u::m,by rw [ay_,List.map_cons,List.map_cons,hu,hm],hle,hlm⟩
end
theorem p8_ {A:Au} (hok:AuOk A) {L:Nat→Option Tr} (hin:TabIn A L) (h:pu_ A L) {q:Nat} (hq:q<A.f.length):(∀ t,L q=some t→Best A (q:Int) t)∧(L q=none→ ¬ ∃ t,Best A (q:Int) t):=by
 constructor
 ·intro t ht
  refine⟨hin.h q t hq ht,fun u hu=>?_⟩
  obtain⟨v,hv,hle⟩:=s2_ hok hin h u hu.n hu.z
  rw [hu.s,Int.toNat_natCast,ht] at hv
  obtain rfl:=Option.some.inj hv
  exact hle
 ·rintro hn ⟨t,ht⟩
  obtain⟨v,hv,hle⟩:=s2_ hok hin h t ht.1.n ht.1.z
  rw [ht.1.s,Int.toNat_natCast,hn] at hv
  cases hv
end Go.Mn
namespace Go.Proofs.Ytichhfbkhnimmaa
open Go Go.Dm
instance:GlobW:=⟨[]⟩
end Go.Proofs.Ytichhfbkhnimmaa
