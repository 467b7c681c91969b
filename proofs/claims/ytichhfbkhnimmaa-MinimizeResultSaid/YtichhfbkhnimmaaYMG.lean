/- Automata, plainly: the table of distances, classes. No condition. -/
import Derived.Test.YtichhfbkhnimmaaYMD
set_option linter.unusedSimpArgs false
set_option linter.unusedVariables false
set_option maxHeartbeats 400000
namespace Go.Mn
open Go Go.Rt
def farK (A:Au):Nat→Int→Int→Int
 |0,p,q=>if finI A p≠finI A q then 0 else -1
 |r+1,p,q=>if 0≤farK A r p q then farK A r p q else if (ab_ A).any (fun s=>decide (farK A r (an_ A s p) (an_ A s q)=(r:Int))) then ((r+1:Nat):Int) else -1
def MinD (A:Au) (d:Nat) (p q:Int):Prop:=Dist A d p q∧ ∀ e,e<d→ ¬ Dist A e p q
theorem MinD.uniq {A:Au} {d e:Nat} {p q:Int} (h:MinD A d p q) (h2:MinD A e p q):d=e:=by
 rcases Nat.lt_trichotomy d e with hl|hl|hl
 ·exact absurd h.1 (h2.2 d hl)
 ·exact hl
 ·exact absurd h2.1 (h.2 e hl)
theorem zj_ {A:Au} {p q:Int}:∀ {k:Nat},¬ Eqk A k p q→ ∃ d,d≤k∧MinD A d p q
 |0,h=>⟨0,Nat.le_refl _,Classical.byContradiction fun hn=>h fun d hd e=>hn (by
   obtain rfl:d=0:=by omega
   exact⟨e,fun e he=>absurd he (Nat.not_lt_zero _)⟩)⟩
 |k+    1,h=>by
  by_cases h1:Eqk A k p q
  ·refine⟨k+1,Nat.le_refl _,Classical.byContradiction fun hn=>h fun d hd e=>?_⟩
   by_cases hdk:d≤k
   ·exact h1 d hdk e
   ·    obtain rfl:d=k+1:=by omega
        exact hn ⟨e,fun e he=>h1 e (by omega)⟩
  ·obtain⟨d,h2,h3⟩:=zj_ h1
   exact⟨d,by omega,h3⟩
theorem my_ {A:Au} {d:Nat} {p q:Int} (h:Eqk A d p q):MinD A (d+1) p q↔ ∃ s∈ab_ A,MinD A d (an_ A s p) (an_ A s q):=by
 constructor
 ·rintro⟨h1,h2⟩
  obtain⟨s,hs,h3⟩:=b1_.1 h1
  exact⟨s,hs,h3,fun e he h4=>h2 (e+1) (by omega) (b1_.2 ⟨s,hs,h4⟩)⟩
 ·rintro⟨s,hs,h1,h2⟩
  exact⟨b1_.2 ⟨s,hs,h1⟩,fun e he=>h e (by omega)⟩
theorem fr_ (A:Au):∀ (r:Nat) (p q:Int),(∀ d:Nat,farK A r p q=(d:Int)↔d≤r∧MinD A d p q)∧(farK A r p q= -1↔Eqk A r p q)∧ -1≤farK A r p q
  | 0, p,q=>by
    rw [farK]
    by_cases h:finI A p≠finI A q
    · rw [if_pos h]
      refine⟨fun d=>⟨fun e=>?_,fun⟨h1,h2⟩=>by omega⟩,⟨fun e=>by omega,fun e=>absurd (b6_.2 h) (e 0 (Nat.le_refl _))⟩,by omega⟩
      obtain rfl:d=0:=by omega
      exact⟨Nat.le_refl _,b6_.2 h,fun e he=>absurd he (Nat.not_lt_zero _)⟩
    · rw [if_neg h]
      refine⟨fun d=>⟨fun e=>by omega,fun⟨h1,h2⟩=>?_⟩,⟨fun _ d hd e=>?_,fun _=>rfl⟩,by omega⟩
      · obtain rfl:d=0:=by omega
        exact absurd (b6_.1 h2.1) h
      · obtain rfl:d=0:=by omega
        exact h (b6_.1 e)
  | r + 1, p,q=>by
    obtain⟨i1,i2,i3⟩:=fr_ A r p q
    rw [farK]
    by_cases h0:0≤farK A r p q
    · rw [if_pos h0]
      obtain⟨m,hm⟩:=Int.eq_ofNat_of_zero_le h0
      have hmin:=(i1 m).1 hm
      refine⟨fun d=>⟨fun e=>?_,fun⟨h1,h2⟩=>?_⟩,⟨fun e=>by omega,fun e=>absurd hmin.2.1 (e m (by omega))⟩,by omega⟩
      · have:=(i1 d).1 e
        exact⟨by omega,this.2⟩
      ·rw [hm,hmin.2.uniq h2]
    · rw [if_neg h0]
      have hE:=i2.1 (by omega)
      have hiff:=my_ hE
      by_cases h1:(ab_ A).any (fun s=>decide (farK A r (an_ A s p) (an_ A s q)=(r:Int)))=true
      · rw [if_pos h1]
        obtain⟨s,hs,h2⟩:=List.any_eq_true.1 h1
        have h3:=((fr_ A r _ _).1 r).1 (of_decide_eq_true h2)
        have hmin:=hiff.2 ⟨s,hs,h3.2⟩
        refine⟨fun d=>⟨fun e=>?_,fun⟨h1,h2⟩=>?_⟩,⟨fun e=>by omega,fun e=>absurd hmin.1 (e (r+1) (Nat.le_refl _))⟩,by omega⟩
        · obtain rfl:d=r+1:=by omega
          exact⟨Nat.le_refl _,hmin⟩
        ·rw [hmin.uniq h2]
      · rw [if_neg h1]
        have hno:¬ ∃ s∈ab_ A,MinD A r (an_ A s p) (an_ A s q):=fun⟨s,hs,h2⟩=>h1 (List.any_eq_true.2 ⟨s,hs,decide_eq_true (((fr_ A r _ _).1 r).2 ⟨Nat.le_refl _,h2⟩)⟩)
        have hE2:Eqk A (r+1) p q:=fun d hd e=>by
          by_cases hdr:d≤r
          ·exact hE d hdr e
          · obtain rfl:d=r+1:=by omega
            exact hno (hiff.1 ⟨e,fun e he=>hE e (by omega)⟩)
        refine⟨fun d=>⟨fun e=>by omega,fun⟨h1,h2⟩=>absurd h2.1 (hE2 d h1)⟩,⟨fun _=>hE2,fun _=>rfl⟩,by omega⟩
theorem ja_ {A:Au} {r d:Nat} {p q:Int}:farK A r p q=(d:Int)↔d≤r∧MinD A d p q:=(fr_ A r p q).1 d
theorem y3_ {A:Au} {r:Nat} {p q:Int}:farK A r p q<0↔Eqk A r p q:=by
 obtain⟨h1,h2,h3⟩:=fr_ A r p q
 exact⟨fun h=>h2.1 (by omega),fun h=>by have:=h2.2 h;omega⟩
theorem ul_ {A:Au} {r:Nat} {p q:Int}:farK A (r+1) p q=(r:Int)↔farK A r p q=(r:Int):=by
 rw [ja_,ja_]
 exact⟨fun h=>⟨Nat.le_refl _,h.2⟩,fun h=>⟨by omega,h.2⟩⟩
def farA (A:Au) (p q:Int):Int:=farK A A.f.length p q
theorem h2_ {A:Au} (hok:AuOk A) {p q:Nat} (hp:p<A.f.length) (hq:q<A.f.length):farA A (p:Int) (q:Int)<0↔Eqv A (p:Int) (q:Int):=by
 unfold farA
 rw [y3_]
 exact⟨fun h=>aer hok hp hq (h.mono (by omega)),fun h d _=>h d⟩
def clsA (A:Au) (p:Nat):Nat:=((List.range A.f.length).find? fun (q:Nat)=>decide (farA A (p:Int) (q:Int)<0)).getD 0
theorem ha_ {n:Nat} {f:Nat→Bool} {p:Nat} (hp:p<n) (h:f p=true):∃ q,(List.range n).find? f=some q∧q≤p∧f q=true∧ ∀ r,r<q→f r=false:=by
 cases hf:(List.range n).find? f with
 |none=>
  have:=List.find?_eq_none.1 hf p (List.mem_range.2 hp)
  rw [h] at this;exact absurd rfl this
 |some q=>
  rw [List.find?_range_eq_some] at hf
  obtain⟨h1,h2,h3⟩:=hf
  have h3:∀ r,r<q→f r=false:=fun r hr=>by simpa using h3 r hr
  refine⟨q,rfl,?_,h1,h3⟩
  refine Classical.byContradiction fun hn=>?_
  rw [h3 p (by omega)] at h
  cases h
theorem d4_ {A:Au} (hok:AuOk A) {p:Nat} (hp:p<A.f.length):clsA A p≤p∧Eqv A (p:Int) (clsA A p:Int)∧ ∀ r,r<clsA A p→ ¬ Eqv A (p:Int) (r:Int):=by
 obtain⟨q,h1,h2,h3,h4⟩:=ha_ (f:=fun (q:Nat)=>decide (farA A (p:Int) (q:Int)<0)) hp (decide_eq_true ((h2_ hok hp hp).2 (Eqv.refl A _)))
 unfold clsA
 rw [h1,Option.getD_some]
 refine⟨h2,(h2_ hok hp (by omega)).1 (of_decide_eq_true h3),fun r hr e=>?_⟩
 have:=h4 r hr
 rw [decide_eq_true ((h2_ hok hp (by omega)).2 e)] at this
 cases this
theorem wm_ {A:Au} (hok:AuOk A) {p q:Nat} (hp:p<A.f.length) (hq:q<A.f.length):clsA A p=clsA A q↔Eqv A (p:Int) (q:Int):=by
 obtain⟨p1,p2,p3⟩:=d4_ hok hp
 obtain⟨q1,q2,q3⟩:=d4_ hok hq
 constructor
 ·intro h
  rw [h] at p2
  exact p2.trans q2.symm
 ·intro h
  rcases Nat.lt_trichotomy (clsA A p) (clsA A q) with hl|hl|hl
  ·exact absurd (h.symm.trans p2) (q3 _ hl)
  ·exact hl
  ·exact absurd (h.trans q2) (p3 _ hl)
theorem ys_ {A:Au} (hok:AuOk A) {p:Nat} (hp:p<A.f.length):clsA A (clsA A p)=clsA A p:=by
 obtain⟨p1,p2,p3⟩:=d4_ hok hp
 exact (wm_ hok (by omega) hp).2 p2.symm
theorem q2_ {A:Au} (hok:AuOk A) (h:Nat→Nat) (hle:∀ p,p<A.f.length→h p≤p) (hhh:∀ p,p<A.f.length→h (h p)=h p)
  (heq:∀ p q,p<A.f.length→q<A.f.length→Eqv A (p:Int) (q:Int)→h p=h q)
  (hf:∀ p q,p<A.f.length→q<A.f.length→h p=h q→finI A (p:Int)=finI A (q:Int))
  (hn:∀ p q,p<A.f.length→q<A.f.length→h p=h q→ ∀ s∈ab_ A,h (an_ A s (p:Int)).toNat=h (an_ A s (q:Int)).toNat):∀ p,p<A.f.length→h p=clsA A p:=by
 have key:∀ p q,p<A.f.length→q<A.f.length→h p=h q→Eqv A (p:Int) (q:Int):=fun p q hp hq e=>by
  refine abp (fun x y=>InA A x∧InA A y∧h x.toNat=h y.toNat) ?_ ?_ ⟨⟨by omega,by omega⟩,⟨by omega,by omega⟩,e⟩
  ·rintro x y ⟨⟨x0,x1⟩,⟨y0,y1⟩,e⟩
   have:=hf x.toNat y.toNat (by omega) (by omega) e
   rwa [Int.toNat_of_nonneg x0,Int.toNat_of_nonneg y0] at this
  ·rintro x y ⟨⟨x0,x1⟩,⟨y0,y1⟩,e⟩ s hs
   have hs':=a2_.1 hs
   have:=hn x.toNat y.toNat (by omega) (by omega) e s hs
   rw [Int.toNat_of_nonneg x0,Int.toNat_of_nonneg y0] at this
   exact⟨b4_ hok hs' ⟨x0,x1⟩,b4_ hok hs' ⟨y0,y1⟩,this⟩
 intro p hp
 obtain⟨p1,p2,p3⟩:=d4_ hok hp
 have h1:h p=h (clsA A p):=heq p _ hp (by omega) p2
 have h2:=hle _ (show clsA A p<A.f.length by omega)
 have h3:Eqv A (p:Int) (h p:Int):=key p (h p) hp (by have:=hle p hp;omega) (hhh p hp).symm
 rcases Nat.lt_or_ge (h p) (clsA A p) with hl|hl
 ·exact absurd h3 (p3 _ hl)
 ·omega
end Go.Mn
namespace Go.Mn
open Go Go.Rt
theorem h0_ {A:Au} (hok:AuOk A) {i:Nat} {k:Int} (h:A.r[i]?=some k):∃ m:Nat,k=(m:Int)∧m≤2:=by
 have:=hok.alpha.rng k (List.mem_of_getElem? h)
 exact⟨k.toNat,by omega,by omega⟩
mutual
theorem b3_ {A:Au} (hok:AuOk A):∀ t:Tr,bc_ A.r t=0→ay_ A t∈ac_ A
 | .node s l,h=>by
   obtain⟨h1,h2,h3,h4⟩:=b7_ h
   obtain⟨i,rfl⟩:=Int.eq_ofNat_of_zero_le h1
   have hi:i<A.r.length:=by omega
   rw [bb_]
   refine c3_ hok (k:=l.length) ?_ (by rw [cv_,List.length_map]) (gc_ hok l h4)
   rw [List.getElem?_eq_getElem hi,h3,Int.toNat_natCast,List.getD_eq_getElem?_getD,List.getElem?_eq_getElem hi];rfl
theorem gc_ {A:Au} (hok:AuOk A):∀ l:List Tr,bq_ A.r l=0→ ∀ x∈ax_ A l,x∈ac_ A
 | [],_,x,hx=>by rw [ax_] at hx;cases hx
 |t::ts,h,x,hx=>by
  obtain⟨h1,h2⟩:=ci_ h
  rw [ax_] at hx
  rcases List.mem_cons.1 hx with rfl|hx
  ·exact b3_ hok t h1
  ·exact gc_ hok ts h2 x hx
end
def eh_ (A:Au) (x:Int):Prop:= ∃ t,bc_ A.r t=0∧ay_ A t=x
theorem p7_ {A:Au}:∀ {ds:List Int},(∀ d∈ds,eh_ A d)→ ∃ l:List Tr,bq_ A.r l=0∧ax_ A l=ds
 | [],_=>⟨[],by rw [bq_],by rw [ax_]⟩
 |d::ds,h=>by
  obtain⟨t,h1,h2⟩:=h d (by simp)
  obtain⟨l,h3,h4⟩:=p7_ fun x hx=>h x (List.mem_cons_of_mem _ hx)
  exact⟨t::l,by rw [bq_,if_neg (by omega)];exact h3,by rw [ax_,h2,h4]⟩
theorem s0_ {A:Au} {i:Nat} {ds:List Int} (hi:A.r[i]?=some (ds.length:Int)) (h:∀ d∈ds,eh_ A d):eh_ A (atI A i ds):=by
 obtain⟨l,h1,h2⟩:=p7_ h
 have hlen:l.length=ds.length:=by rw [← h2,cv_,List.length_map]
 refine⟨.node i l,?_,by rw [bb_,h2]⟩
 have hir:=(List.getElem?_eq_some_iff.1 hi).1
 rw [bc_,if_neg (by omega),if_neg ?_]
 ·exact h1
 ·rw [Int.toNat_natCast,List.getD_eq_getElem?_getD,hi,hlen];simp
theorem jx_ {A:Au} {i:Nat}:∀ {ls:List (List Int)} {out:List Int},(∀ x∈out,eh_ A x)→(∀ l∈ls,eh_ A (atI A i l))→ ∀ x∈bl_ A i ls out,eh_ A x
 | [],out,h,_,x,hx=>h x hx
 |l::ls,out,h,hl,x,hx=>by
  refine jx_ (ls:=ls) (out:=a7_ A i out l) (fun y hy=>?_) (fun y hy=>hl y (List.mem_cons_of_mem _ hy)) x hx
  unfold a7_ at hy
  split at hy
  ·exact h y hy
  ·rcases List.mem_append.1 hy with hy|hy
   ·exact h y hy
   ·rw [List.mem_singleton] at hy;subst hy;exact hl l (by simp)
theorem j6_ {A:Au} (hok:AuOk A) {of out:List Int} (h1:∀ x∈of,eh_ A x) (h2:∀ x∈out,eh_ A x):∀ j,j≤A.r.length→ ∀ x∈bi_ A of out j,eh_ A x
 |0,_,x,hx=>h2 x hx
 |j+1,hj,x,hx=>by
  rw [bo_] at hx
  obtain⟨r1,r2,r3⟩:=de_ hok (show j<A.r.length by omega)
  refine jx_ (j6_ hok h1 h2 j (by omega)) (fun l hl=>?_) x hx
  obtain⟨ds,d1,d2,d3⟩:=i0_.1 hl
  obtain rfl:l=ds:=d3
  exact s0_ (by rw [d1];exact r1) fun d hd=>h1 d (d2 d hd)
theorem ed_ {A:Au} (hok:AuOk A) {x:Int} (hx:x∈ac_ A):eh_ A x:=by
 have key:∀ k,∀ x∈ar_ A k,eh_ A x:=by
  intro k
  induction k with
  |zero=>exact fun x hx=>by cases hx
  |succ k ih=>exact fun x hx=>j6_ hok ih ih _ (Nat.le_refl _) x hx
 exact key _ x hx
theorem av_ {A:Au} (hok:AuOk A) {x:Int} (hx:x∈ac_ A):InA A x:=(bn_ hok (A.f.length+1)).rng x hx
theorem gn_ {A:Au} (hok:AuOk A):(ac_ A).Nodup:=(bn_ hok (A.f.length+1)).nd
def EqvL (A:Au):List Int→List Int→Prop
 | [],[]=>True
 |x::xs,y::ys=>Eqv A x y∧EqvL A xs ys
 |_,_=>False
theorem EqvL.len {A:Au}:∀ {xs ys:List Int},EqvL A xs ys→xs.length=ys.length
 | [],[],_=>rfl
 |x::xs,y::ys,h=>by rw [List.length_cons,List.length_cons,EqvL.len h.2]
 | [],_::_,h=>h.elim
 |_::_,[],h=>h.elim
theorem EqvL.map {A:Au} {α:Type} {f g:α→Int}:∀ {l:List α},(∀ x∈l,Eqv A (f x) (g x))→EqvL A (l.map f) (l.map g)
 | [],_=>trivial
 |x::xs,h=>⟨h x (by simp),EqvL.map fun y hy=>h y (List.mem_cons_of_mem _ hy)⟩
theorem cong {A:Au} (hok:AuOk A) {i:Nat} {xs ys:List Int} (hi:A.r[i]?=some (xs.length:Int)) (hx:∀ x∈xs,x∈ac_ A) (hy:∀ y∈ys,y∈ac_ A) (h:EqvL A xs ys):Eqv A (atI A i xs) (atI A i ys):=by
 have hir:=(List.getElem?_eq_some_iff.1 hi).1
 have hr:A.r.getD i 0=(xs.length:Int):=by rw [List.getD_eq_getElem?_getD,hi];rfl
 have h2:=(hok.alpha.rng _ (List.mem_of_getElem? hi)).2
 match xs,ys,h with
 | [],[],_=>exact Eqv.refl A _
 | [x],[y],h=>
   have hs:(⟨i,0, -1⟩:Sp)∈ab_ A:=a2_.2 ⟨i,rfl,hir,.inl ⟨hr,rfl,rfl⟩⟩
   exact h.1.next hs
 | [x,x2],[y,y2],h=>
   have hx2:=hx x2 (by simp)
   have hy1:=hy y (by simp)
   obtain⟨a0,a1⟩:=av_ hok hx2
   obtain⟨b0,b1⟩:=av_ hok hy1
   have hs1:(⟨i,0,x2⟩:Sp)∈ab_ A:=a2_.2 ⟨i,rfl,hir,.inr ⟨hr,.inl rfl,a0,a1,hx2⟩⟩
   have hs2:(⟨i,1,y⟩:Sp)∈ab_ A:=a2_.2 ⟨i,rfl,hir,.inr ⟨hr,.inr rfl,b0,b1,hy1⟩⟩
   have e1:=h.1.next hs1
   have e2:=h.2.1.next hs2
   have f1:∀ z,an_ A ⟨i,0,x2⟩ z=atI A i [z,x2]:=fun z=>by
    unfold an_ Sp.args
    rw [if_neg (by show ¬ x2<0;omega),if_pos rfl]
   have f2:∀ z,an_ A ⟨i,1,y⟩ z=atI A i [y,z]:=fun z=>by
    unfold an_ Sp.args
    rw [if_neg (by show ¬ y<0;omega),if_neg (by show ¬ (1:Int)=0;decide)]
   rw [f1,f1] at e1
   rw [f2,f2] at e2
   exact e1.trans e2
 |_::_::_::_,_,_=>simp only [List.length_cons] at h2;omega
def clsI (A:Au) (x:Int):Nat:=clsA A x.toNat
theorem di_ {A:Au} (hok:AuOk A) {x y:Int} (hx:InA A x) (hy:InA A y):clsI A x=clsI A y↔Eqv A x y:=by
 obtain⟨x0,x1⟩:=hx
 obtain⟨y0,y1⟩:=hy
 have:=wm_ hok (p:=x.toNat) (q:=y.toNat) (by omega) (by omega)
 rwa [Int.toNat_of_nonneg x0,Int.toNat_of_nonneg y0] at this
def idxC (A:Au) (reps:List Int) (x:Int):Nat:=(reps.map (clsI A)).idxOf (clsI A x)
def qT (A:Au) (reps:List Int) (i:Int) (ds:List Int):Int:=(idxC A reps (atI A i (ds.map (phi reps))):Nat)
def qF (A:Au) (reps:List Int) (s:Nat):Bool:=finI A (reps.getD s 0)
def quoA (A:Au) (reps:List Int):Au:=cj_ A.r reps.length (qT A reps) (qF A reps)
structure RepsOk (A:Au) (reps:List Int):Prop where
 found:∀ r∈reps,r∈ac_ A
 nd:(reps.map (clsI A)).Nodup
 all:∀ x∈ac_ A,clsI A x∈reps.map (clsI A)
section
variable {A:Au} {reps:List Int}
theorem RepsOk.inA (hok:AuOk A) (h:RepsOk A reps):∀ r∈reps,InA A r:=fun r hr=>av_ hok (h.found r hr)
theorem RepsOk.nodup (h:RepsOk A reps):reps.Nodup:=by
 have:=h.nd
 rw [List.nodup_iff_pairwise_ne,List.pairwise_map] at this
 exact this.imp fun hne e=>hne (by rw [e])
theorem RepsOk.len (hok:AuOk A) (h:RepsOk A reps):reps.length≤A.f.length:=b9_ _ _ h.nodup fun r hr=>h.inA hok r hr
theorem RepsOk.pos (hk:chk A=0) (h:RepsOk A reps):0<reps.length:=by
 have hok:=a4_ hk
 obtain⟨i,hi⟩:=List.getElem?_of_mem (go_ hk)
 have:=h.all _ (c3_ hok (k:=0) (ds:=[]) hi rfl (by simp))
 refine List.length_pos_iff.2 fun e=>?_
 rw [e] at this;cases this
theorem ex_ (h:RepsOk A reps) {x:Int} (hx:x∈ac_ A):idxC A reps x<reps.length:=by
 have:=List.idxOf_lt_length_of_mem (h.all x hx)
 rwa [List.length_map] at this
theorem jw_ (h:RepsOk A reps) {d:Int} (hd:0≤d∧d<(reps.length:Int)):phi reps d∈ac_ A:=h.found _ (od_ hd)
theorem fl_ (hok:AuOk A) (h:RepsOk A reps) {x:Int} (hx:x∈ac_ A):Eqv A (phi reps (idxC A reps x:Nat)) x:=by
 have hlt:=ex_ h hx
 have hm:=h.all x hx
 have e:(reps.map (clsI A))[idxC A reps x]?=some (clsI A x):=by
  unfold idxC
  rw [List.getElem?_eq_getElem (List.idxOf_lt_length_of_mem hm),List.getElem_idxOf]
 rw [List.getElem?_map,List.getElem?_eq_getElem hlt] at e
 have e:clsI A reps[idxC A reps x]=clsI A x:=Option.some.inj e
 have hp:phi reps (idxC A reps x:Nat)=reps[idxC A reps x]:=by
  unfold phi
  rw [Int.toNat_natCast,List.getD_eq_getElem?_getD,List.getElem?_eq_getElem hlt];rfl
 rw [hp]
 exact (di_ hok (h.inA hok _ (List.getElem_mem hlt)) (av_ hok hx)).1 e
theorem ee_ (hok:AuOk A) {x y:Int} (hx:InA A x) (hy:InA A y) (e:Eqv A x y):idxC A reps x=idxC A reps y:=by
 unfold idxC
 rw [(di_ hok hx hy).2 e]
theorem pb_ (hok:AuOk A) (h:RepsOk A reps) {x y:Int} (hx:x∈ac_ A) (hy:y∈ac_ A) (e:idxC A reps x=idxC A reps y):Eqv A x y:=by
 have h1:=fl_ hok h hx
 have h2:=fl_ hok h hy
 rw [e] at h1
 exact h1.symm.trans h2
theorem ux_ (hok:AuOk A) (h:RepsOk A reps) {d:Int} (hd:0≤d∧d<(reps.length:Int)):((idxC A reps (phi reps d):Nat):Int)=d:=by
 obtain⟨m,rfl⟩:=Int.eq_ofNat_of_zero_le hd.1
 have hm:m<reps.length:=by omega
 unfold idxC phi
 rw [Int.toNat_natCast,List.getD_eq_getElem?_getD,List.getElem?_eq_getElem hm]
 have:(reps.map (clsI A))[m]?=some (clsI A reps[m]):=by rw [List.getElem?_map,List.getElem?_eq_getElem hm];rfl
 have hlt:=(List.getElem?_eq_some_iff.1 this).1
 have:=(List.getElem?_eq_some_iff.1 this).2
 rw [Option.getD_some,← this,List.Nodup.idxOf_getElem h.nd]
theorem e1_:(quoA A reps).f.length=reps.length:=be_ ..
theorem ll_ (hk:chk A=0) (h:RepsOk A reps) {i k:Nat} {ds:List Int} (hi:A.r[i]?=some (k:Int)) (hl:ds.length=k) (hd:∀ d∈ds,0≤d∧d<(reps.length:Int)):atI A i (ds.map (phi reps))∈ac_ A:=
 c3_ (a4_ hk) hi (by rw [List.length_map];exact hl) fun x hx=>by
  obtain⟨d,hd',rfl⟩:=List.mem_map.1 hx
  exact jw_ h (hd d hd')
theorem f3_ (hk:chk A=0) (h:RepsOk A reps):AuOk (quoA A reps):=by
 have hok:=a4_ hk
 refine tu_ (ft_ hk) (h.pos hk) (by have:=h.len hok;have:=hok.hi;omega) fun i k p hi hp=>?_
 have:=ex_ h (ll_ hk h hi (b8_ _ _ _) (c5_ (h.pos hk) k p))
 unfold qT
 omega
theorem j3_ (hk:chk A=0) (h:RepsOk A reps):chk (quoA A reps)=0:=qh_ (show alphaE A.r=0 from ft_ hk) (f3_ hk h)
theorem so_ (hk:chk A=0) (h:RepsOk A reps) {s:Int} {ds:List Int} (hf:Fits (quoA A reps) s ds):atI (quoA A reps) s ds=(idxC A reps (atI A s (ds.map (phi reps))):Nat)∧atI A s (ds.map (phi reps))∈ac_ A:=by
 obtain⟨i,rfl,hi⟩:=iv_ (f3_ hk h) hf
 exact⟨rq_ (h.pos hk) hf,ll_ hk h hi rfl fun d hd=>by have:=hf.rng d hd;rw [e1_] at this;exact this⟩
mutual
theorem is_ (hk:chk A=0) (h:RepsOk A reps):∀ t:Tr,bc_ A.r t=0→ay_ (quoA A reps) t=(idxC A reps (ay_ A t):Nat)
 | .node s l,hn=>by
   have hok:=a4_ hk
   have hf:Fits (quoA A reps) s (ax_ (quoA A reps) l):=kl_ (f3_ hk h) hn
   obtain⟨h1,h2,h3,h4⟩:=b7_ hn
   obtain⟨q1,q2⟩:=so_ hk h hf
   obtain⟨i,rfl,hi⟩:=iv_ (f3_ hk h) hf
   have hi:A.r[i]?=some ((ax_ (quoA A reps) l).length:Int):=hi
   have ht:=b3_ hok _ hn
   rw [bb_] at ht
   rw [bb_,bb_,q1,ee_ hok (av_ hok q2) (av_ hok ht)]
   have hl:=k7_ hk h l h4
   refine cong hok (by rw [List.length_map];exact hi) (fun x hx=>?_) (gc_ hok l h4) hl
   obtain⟨d,hd,rfl⟩:=List.mem_map.1 hx
   refine jw_ h ?_
   have:=hf.rng d hd
   rwa [e1_] at this
theorem k7_ (hk:chk A=0) (h:RepsOk A reps):∀ l:List Tr,bq_ A.r l=0→EqvL A ((ax_ (quoA A reps) l).map (phi reps)) (ax_ A l)
 | [],_=>by rw [ax_,ax_];trivial
 |t::ts,hn=>by
  obtain⟨h1,h2⟩:=ci_ hn
  rw [ax_,ax_,is_ hk h t h1]
  exact⟨fl_ (a4_ hk) h (b3_ (a4_ hk) t h1),k7_ hk h ts h2⟩
end
theorem ru_ (hk:chk A=0) (h:RepsOk A reps) {x:Int} (hx:x∈ac_ A):finI (quoA A reps) (idxC A reps x:Nat)=finI A x:=by
 have hlt:=ex_ h hx
 have he:=(fl_ (a4_ hk) h hx).fin
 unfold finI quoA cj_ at*
 rw [Int.toNat_natCast]
 show ((List.range reps.length).map (qF A reps)).getD (idxC A reps x) false=_
 rw [List.getD_eq_getElem?_getD,List.getElem?_map,List.getElem?_range hlt]
 show qF A reps (idxC A reps x)=_
 unfold qF finI
 unfold phi at he
 rw [Int.toNat_natCast] at he
 exact he
theorem mz_ (hk:chk A=0) (h:RepsOk A reps) {d:Int} (hd:0≤d∧d<(reps.length:Int)):d∈ac_ (quoA A reps):=by
 obtain⟨t,h1,h2⟩:=ed_ (a4_ hk) (jw_ h hd)
 have:=b3_ (f3_ hk h) t h1
 rw [is_ hk h t h1,h2,ux_ (a4_ hk) h hd] at this
 exact this
end
end Go.Mn
namespace Go.Mn
open Go Go.Rt
theorem ia_ {α β γ:Type} [BEq β] [LawfulBEq β] [BEq γ] [LawfulBEq γ] {f:α→β} {g:α→γ} {b:β} {c:γ}:∀ {l:List α},(∀ x∈l,f x=b↔g x=c)→(l.map f).idxOf b=(l.map g).idxOf c
 | [],_=>rfl
 |x::xs,h=>by
  rw [List.map_cons,List.map_cons,List.idxOf_cons,List.idxOf_cons]
  by_cases e:f x=b
  ·have e2:=(h x (by simp)).1 e
   rw [beq_iff_eq.2 e,beq_iff_eq.2 e2];rfl
  ·have e2:¬ g x=c:=fun e2=>e ((h x (by simp)).2 e2)
   rw [beq_eq_false_iff_ne.2 e,beq_eq_false_iff_ne.2 e2,cond_false,cond_false,ia_ fun y hy=>h y (List.mem_cons_of_mem _ hy)]
theorem py_ {l:List Int} {d:Int} {i:Nat} (h:d=(i:Int)) (hi:i<l.length):phi l d=l[i]:=by
 subst h
 unfold phi
 rw [Int.toNat_natCast,List.getD_eq_getElem?_getD,List.getElem?_eq_getElem hi];rfl
theorem n9_ {f:Int→Int} {l:List Int} {d:Int} (hd:0≤d∧d<(l.length:Int)):phi (l.map f) d=f (phi l d):=by
 obtain⟨i,rfl⟩:=Int.eq_ofNat_of_zero_le hd.1
 have hi:i<l.length:=by omega
 rw [py_ rfl (by rw [List.length_map];exact hi),py_ rfl hi,List.getElem_map]
section
variable {A:Au} {reps reps':List Int}
theorem pr_ (hk:chk A=0) (h:RepsOk A reps) (h':RepsOk A reps'):ShutL (quoA A reps) (reps'.map fun r=>((idxC A reps r:Nat):Int))∧quoA A reps'=aw_ (quoA A reps) (reps'.map fun r=>((idxC A reps r:Nat):Int)):=by
 have hok:=a4_ hk
 have hpos:=h'.pos hk
 have hlr:∀ r∈reps',0≤((idxC A reps r:Nat):Int)∧((idxC A reps r:Nat):Int)<(reps.length:Int):=fun r hr=>by
  have:=ex_ h (h'.found r hr)
  omega
 have hnd:(reps'.map fun r=>((idxC A reps r:Nat):Int)).Nodup:=by
  rw [List.nodup_iff_pairwise_ne,List.pairwise_map]
  have:=h'.nd
  rw [List.nodup_iff_pairwise_ne,List.pairwise_map] at this
  refine List.Pairwise.imp_of_mem ?_ this
  intro a b ha hb hne e
  exact hne ((di_ hok (h'.inA hok a ha) (h'.inA hok b hb)).2 (pb_ hok h (h'.found a ha) (h'.found b hb) (by omega)))
 have hsh :ShutL (quoA A reps) (reps'.map fun r=>((idxC A reps r:Nat):Int)):=by
  refine⟨by rw [List.length_map];exact hpos,by rw [List.length_map];have:=h'.len hok;have:=hok.hi;omega,hnd,fun s hs=>?_,fun i k ds hi hl hd=>?_⟩
  ·obtain⟨r,hr,rfl⟩:=List.mem_map.1 hs
   rw [e1_];exact hlr r hr
  ·obtain ⟨m,rfl,hm2⟩:=h0_ (f3_ hk h) hi
   rw [List.length_map] at hd
   have  hr2:∀ d∈ds,0≤(reps'.map fun r=>((idxC A reps r:Nat):Int)).getD d.toNat 0∧(reps'.map fun r=>((idxC A reps r:Nat):Int)).getD d.toNat 0<(reps.length:Int):=fun d hd'=>by
        have h1:=fw_ (l:=reps'.map fun r=>((idxC A reps r:Nat):Int)) (d:=d) (by rw [List.length_map];exact hd d hd')
        obtain⟨r,hr,e⟩:=List.mem_map.1 h1
        rw [← e];exact hlr r hr
   have   hf:Fits (quoA A reps) (i:Int) (ds.map fun d=>(reps'.map fun r=>((idxC A reps r:Nat):Int)).getD d.toNat 0):=by
        refine⟨by omega,by have:=(List.getElem?_eq_some_iff.1 hi).1;omega,?_,fun x hx=>?_⟩
        ·rw [List.length_map,Int.toNat_natCast,List.getD_eq_getElem?_getD,hi,hl];rfl
        ·obtain⟨d,hd',rfl⟩:=List.mem_map.1 hx
         rw [e1_];exact hr2 d hd'
   obtain⟨q1,q2⟩:=so_ hk h hf
   rw [q1]
   generalize atI A (i:Int) ((ds.map fun d=>(reps'.map fun r=>((idxC A reps r:Nat):Int)).getD d.toNat 0).map (phi reps))=y at*
   obtain⟨r,hr,hre⟩:=List.mem_map.1 (h'.all y q2)
   refine List.mem_map.2 ⟨r,hr,?_⟩
   rw [ee_ hok (h'.inA hok r hr) (av_ hok q2) ((di_ hok (h'.inA hok r hr) (av_ hok q2)).1 hre)]
 refine⟨hsh,?_⟩
 unfold quoA aw_
 rw [List.length_map]
 show cj_ A.r _ _ _=cj_ A.r _ _ _
 unfold cj_
 congr 1
 ·refine List.map_congr_left fun s hs=>?_
  have hs':s<reps'.length:=List.mem_range.1 hs
  unfold qF fz_
  have e1:reps'.getD s 0=reps'[s]:=by rw [List.getD_eq_getElem?_getD,List.getElem?_eq_getElem hs'];rfl
  have e2:(reps'.map fun r=>((idxC A reps r:Nat):Int)).getD s 0=((idxC A reps reps'[s]:Nat):Int):=by
   rw [List.getD_eq_getElem?_getD,List.getElem?_map,List.getElem?_eq_getElem hs'];rfl
  rw [e1,e2]
  exact (ru_ hk h (h'.found _ (List.getElem_mem hs'))).symm
 ·unfold aj_ az_
  refine List.map_congr_left fun i hi=>?_
  have hi':i<A.r.length:=List.mem_range.1 hi
  obtain⟨r1,r2,r3⟩:=de_ hok hi'
  refine List.map_congr_left fun p _=>?_
  have hdr:=c5_ hpos (A.r.getD i 0).toNat p
  have hdl:=b8_ reps'.length (A.r.getD i 0).toNat p
  generalize digs reps'.length (A.r.getD i 0).toNat p=ds at*
  have hf:Fits (quoA A reps) (i:Int) (ds.map fun d=>(reps'.map fun r=>((idxC A reps r:Nat):Int)).getD d.toNat 0):=hsh.fits (k:=((A.r.getD i 0).toNat:Int)) r1 (by omega) (by rw [List.length_map];exact hdr)
  obtain⟨q1,q2⟩:=so_ hk h hf
  have q3:=ll_ hk h' r1 hdl hdr
  unfold cu_ qT
  rw [show atI { r:=A.r,f:=List.map (qF A reps) (List.range reps.length),to:=List.map (fun (i:Nat)=>List.map (fun p=>((idxC A reps (atI A ↑i ((digs reps.length (A.r.getD i 0).toNat p).map (phi reps))):Nat):Int)) (List.range (ba_ (A.r.getD i 0) reps.length))) (List.range A.r.length) }=atI (quoA A reps) from rfl]
  rw [q1]
  have   hE:Eqv A (atI A (i:Int) ((ds.map fun d=>(reps'.map fun r=>((idxC A reps r:Nat):Int)).getD d.toNat 0).map (phi reps))) (atI A (i:Int) (ds.map (phi reps'))):=by
   rw [List.map_map]
   refine cong hok (by rw [List.length_map,hdl];exact r1) (fun x hx=>?_) (fun y hy=>?_) (EqvL.map fun d hd=>?_)
   ·    obtain⟨d,hd,rfl⟩:=List.mem_map.1 hx
        refine jw_ h ?_
        obtain⟨r,hr,e⟩:=List.mem_map.1 (fw_ (l:=reps'.map fun r=>((idxC A reps r:Nat):Int)) (d:=d) (by rw [List.length_map];exact hdr d hd))
        have hb:0≤(reps'.map fun r=>((idxC A reps r:Nat):Int)).getD d.toNat 0∧(reps'.map fun r=>((idxC A reps r:Nat):Int)).getD d.toNat 0<(reps.length:Int):=by rw [← e];exact hlr r hr
        exact hb
   ·    obtain⟨d,hd,rfl⟩:=List.mem_map.1 hy
        exact jw_ h' (hdr d hd)
   ·    have e:(reps'.map fun r=>((idxC A reps r:Nat):Int)).getD d.toNat 0=((idxC A reps (phi reps' d):Nat):Int):=n9_ (f:=fun r=>((idxC A reps r:Nat):Int)) (hdr d hd)
        show Eqv A (phi reps ((reps'.map fun r=>((idxC A reps r:Nat):Int)).getD d.toNat 0)) _
        rw [e]
        exact fl_ hok h (jw_ h' (hdr d hd))
  generalize atI A (i:Int) ((ds.map fun d=>(reps'.map fun r=>((idxC A reps r:Nat):Int)).getD d.toNat 0).map (phi reps))=y at*
  generalize atI A (i:Int) (ds.map (phi reps'))=z at*
  have hm:((idxC A reps y:Nat):Int)∈reps'.map fun r=>((idxC A reps r:Nat):Int):=by
   obtain⟨r,hr,hre⟩:=List.mem_map.1 (h'.all y q2)
   refine List.mem_map.2 ⟨r,hr,?_⟩
   rw [ee_ hok (h'.inA hok r hr) (av_ hok q2) ((di_ hok (h'.inA hok r hr) (av_ hok q2)).1 hre)]
  rw [bz_ hm]
  unfold idxC
  congr 1
  refine ia_ fun r hr=>?_
  rw [di_ hok (h'.inA hok r hr) (av_ hok q3)]
  constructor
  ·intro e
   have:idxC A reps r=idxC A reps y:=ee_ hok (h'.inA hok r hr) (av_ hok q2) (e.trans hE.symm)
   exact congrArg (fun n:Nat=>(n:Int)) this
  ·intro e
   have:idxC A reps r=idxC A reps y:=Int.ofNat.inj e
   exact (pb_ hok h (h'.found r hr) q2 this).trans hE
def q7_ (A:Au):Au:=aw_ A (ac_ A)
theorem vi_ (hk:chk A=0) (h:RepsOk A reps) (h':RepsOk A reps'):q7_ (quoA A reps')=q7_ (quoA A reps):=by
 obtain⟨h1,h2⟩:=pr_ hk h h'
 rw [h2]
 exact sk_ (j3_ hk h) h1
end
def ah_ (A:Au):List Int:=((List.range A.f.length).filter fun (s:Nat)=>decide ((s:Int)∈ac_ A) && (List.range s).all fun (r:Nat)=>!decide ((r:Int)∈ac_ A) || !decide (clsA A r=clsA A s)).map fun (s:Nat)=>(s:Int)
theorem gl_ {A:Au} {x:Int}:x∈ah_ A↔ ∃ s:Nat,x=s∧s<A.f.length∧(s:Int)∈ac_ A∧ ∀ r:Nat,r<s→(r:Int)∈ac_ A→clsA A r≠clsA A s:=by
 unfold ah_
 rw [List.mem_map]
 constructor
 ·rintro⟨s,hs,rfl⟩
  rw [List.mem_filter,List.mem_range,Bool.and_eq_true,decide_eq_true_iff,List.all_eq_true] at hs
  refine⟨s,rfl,hs.1,hs.2.1,fun r hr hf e=>?_⟩
  have:=hs.2.2 r (List.mem_range.2 hr)
  rw [decide_eq_true hf,decide_eq_true e] at this
  cases this
 ·rintro⟨s,rfl,h1,h2,h3⟩
  refine⟨s,?_,rfl⟩
  rw [List.mem_filter,List.mem_range,Bool.and_eq_true,decide_eq_true_iff,List.all_eq_true]
  refine⟨h1,h2,fun r hr=>?_⟩
  rw [List.mem_range] at hr
  by_cases hf:(r:Int)∈ac_ A
  ·rw [decide_eq_true hf,decide_eq_false (h3 r hr hf)];rfl
  ·rw [decide_eq_false hf];rfl
theorem b5_ {A:Au} (hok:AuOk A):RepsOk A (ah_ A):=by
  refine⟨fun r hr=>?_,?_,fun x hx=>?_⟩
  · obtain⟨s,rfl,_,h2,_⟩:=gl_.1 hr
    exact h2
  · rw [List.nodup_iff_pairwise_ne,List.pairwise_map]
    have hlt:(ah_ A).Pairwise fun a b=>a<b:=by
      unfold ah_
      rw [List.pairwise_map]
      refine List.Pairwise.filter _ ?_
      exact List.pairwise_lt_range.imp fun h=>by omega
    refine List.Pairwise.imp_of_mem ?_ hlt
    intro a b ha hb hab e
    obtain⟨s,rfl,h1,h2,h3⟩:=gl_.1 ha
    obtain⟨r,rfl,g1,g2,g3⟩:=gl_.1 hb
    refine g3 s (by omega) h2 ?_
    exact e
  · obtain ⟨x0,x1⟩:=av_ hok hx
    obtain⟨m,rfl⟩:=Int.eq_ofNat_of_zero_le x0
    have key:∀ m:Nat,m<A.f.length→(m:Int)∈ac_ A→ ∃ r∈ah_ A,clsI A r=clsA A m:=by
      intro m
      induction m using Nat.strongRecOn with
      | _ m ih=>
        intro hm hf
        by_cases hr:∀ r:Nat,r<m→(r:Int)∈ac_ A→clsA A r≠clsA A m
        ·exact⟨m,gl_.2 ⟨m,rfl,hm,hf,hr⟩,rfl⟩
        · obtain⟨r,h1⟩:=Classical.not_forall.1 hr
          obtain⟨h1,h2⟩:=Classical.not_imp.1 h1
          obtain⟨h2,h3⟩:=Classical.not_imp.1 h2
          have h3:=Classical.not_not.1 h3
          obtain⟨q,q1,q2⟩:=ih r h1 (by omega) h2
          exact⟨q,q1,q2.trans h3⟩
    obtain⟨r,h1,h2⟩:=key m (by omega) hx
    exact List.mem_map.2 ⟨r,h1,h2⟩
def aq_ (A:Au):Au:=q7_ (quoA A (ah_ A))
def a3_ (A:Au) (p:Nat):Int:=if (p:Int)∈ac_ A then hasI (ac_ (quoA A (ah_ A))) (idxC A (ah_ A) (p:Int):Nat) else -1
theorem nu_ {A:Au} (hk:chk A=0) {reps:List Int} (h:RepsOk A reps):aq_ A=q7_ (quoA A reps):=vi_ hk h (b5_ (a4_ hk))
theorem vp_ {A:Au} (hk:chk A=0):chk (q7_ A)=0:=pa_ hk (eu_ (a4_ hk) (go_ hk))
theorem gs_ {A:Au} (hk:chk A=0):chk (aq_ A)=0:=vp_ (j3_ hk (b5_ (a4_ hk)))
mutual
theorem k9_ {A:Au} {l:List Int} (hk:chk A=0) (hsh:ShutL A l):∀ t:Tr,bc_ A.r t=0→ay_ A t=phi l (ay_ (aw_ A l) t)
 | .node s ts,h=>by
   have hf:Fits (aw_ A l) s (ax_ (aw_ A l) ts):=kl_ (A:=aw_ A l) (ds_ hk hsh) h
   have h1:=lg_ hk hsh hf
   obtain⟨_,_,_,h4⟩:=b7_ h
   rw [bb_,bb_,h1,j5_ hk hsh ts h4]
theorem j5_ {A:Au} {l:List Int} (hk:chk A=0) (hsh:ShutL A l):∀ ts:List Tr,bq_ A.r ts=0→ax_ A ts=(ax_ (aw_ A l) ts).map (phi l)
 | [],_=>by rw [ax_,ax_];rfl
 |t::ts,h=>by
  obtain⟨h1,h2⟩:=ci_ h
  rw [ax_,ax_,List.map_cons,← k9_ hk hsh t h1,← j5_ hk hsh ts h2]
end
theorem t8_ {A:Au} {l:List Int} {d:Int} (hd:0≤d∧d<(l.length:Int)):finI (aw_ A l) d=finI A (phi l d):=by
 obtain⟨m,rfl⟩:=Int.eq_ofNat_of_zero_le hd.1
 have hm:m<l.length:=by omega
 unfold finI aw_ cj_ phi
 rw [Int.toNat_natCast]
 show ((List.range l.length).map (fz_ A l)).getD m false=_
 rw [List.getD_eq_getElem?_getD,List.getElem?_map,List.getElem?_range hm]
 rfl
theorem o5_ {A:Au} (hk:chk A=0) (t:Tr) (hn:bc_ A.r t=0):ay_ (aq_ A) t=a3_ A (ay_ A t).toNat∧finI (aq_ A) (ay_ (aq_ A) t)=finI A (ay_ A t):=by
 have hok:=a4_ hk
 have hr:=b5_ hok
 have hqk:=j3_ hk hr
 have hqo:=f3_ hk hr
 have hsh:=eu_ hqo (go_ hqk)
 have hf:=b3_ hok t hn
 obtain⟨x0,x1⟩:=av_ hok hf
 have h1:=is_ hk hr t hn
 have h2:=k9_ hqk hsh t hn
 have h3:=nq_ (ds_ hqk hsh) t hn
 rw [gr_] at h3
 have h4:ay_ (aq_ A) t=ay_ (aw_ (quoA A (ah_ A)) (ac_ (quoA A (ah_ A)))) t:=rfl
 constructor
 ·unfold a3_
  rw [Int.toNat_of_nonneg x0,if_pos hf,h4,← h1,h2,ou_ hsh.nd h3]
 ·rw [h4]
  show finI (aw_ (quoA A (ah_ A)) (ac_ (quoA A (ah_ A)))) _=_
  rw [t8_ h3,← h2,h1,ru_ hk hr hf]
def hr_ (A B:Au):Prop:= ∀ t:Tr,bc_ A.r t=0→finI A (ay_ A t)=finI B (ay_ B t)
theorem fc_ {A B:Au} (hA:AuOk A) (hB:AuOk B) (hr:A.r=B.r) (hL:hr_ A B):∀ (d:Nat) (t u:Tr),bc_ A.r t=0→bc_ A.r u=0→Dist A d (ay_ A t) (ay_ A u)→Dist B d (ay_ B t) (ay_ B u)
 |0,t,u,ht,hu,h=>by
  rw [b6_] at h ⊢
  rwa [← hL t ht,← hL u hu]
 |d+    1,t,u,ht,hu,h=>by
  obtain⟨s,hs,h⟩:=b1_.1 h
  obtain⟨i,h1,h2,h3⟩:=(a2_.1 hs).h
  obtain⟨sy,w,o⟩:=s
  simp only at h1 h3
  subst h1
  have hiB:i<B.r.length:=by rw [← hr];exact h2
  have leaf:∀ (C:Au) (l:List Tr),C.r=A.r→A.r.getD i 0=(l.length:Int)→bq_ A.r l=0→bc_ A.r (.node i l)=0∧ay_ C (.node i l)=atI C i (ax_ C l):=fun C l hC hl hn=>by
   refine⟨?_,bb_ ..⟩
   rw [bc_,if_neg (by omega),if_neg (by rw [Int.toNat_natCast];omega)];exact hn
  have nl1:∀ t,bc_ A.r t=0→bq_ A.r [t]=0:=fun t ht=>by rw [bq_,if_neg (by omega),bq_]
  have nl2:∀ t v,bc_ A.r t=0→bc_ A.r v=0→bq_ A.r [t,v]=0:=fun t v ht hv=>by rw [bq_,if_neg (by omega),bq_,if_neg (by omega),bq_]
  rcases h3 with⟨h3,h4,h5⟩| ⟨h3,h4,h5,h6,h7⟩
  ·subst h4;subst h5
   have hsB:(⟨i,0, -1⟩:Sp)∈ab_ B:=a2_.2 ⟨i,rfl,hiB,.inl ⟨by rw [← hr];exact h3,rfl,rfl⟩⟩
   have  e:∀ (C:Au) (t:Tr),an_ C ⟨i,0, -1⟩ (ay_ C t)=ay_ C (.node i [t]):=fun C t=>by
        rw [bb_,ax_,ax_];rfl
   rw [e,e] at h
   have:=fc_ hA hB hr hL d _ _ (leaf A [t] rfl (by rw [h3];rfl) (nl1 t ht)).1 (leaf A [u] rfl (by rw [h3];rfl) (nl1 u hu)).1 h
   rw [← e,← e] at this
   exact b1_.2 ⟨_,hsB,this⟩
  ·obtain ⟨v,hv,hvo⟩:=ed_ hA h7
   have hvB:bc_ B.r v=0:=by rw [← hr];exact hv
   have hfB:=b3_ hB v hvB
   obtain⟨b0,b1⟩:=av_ hB hfB
   rcases h4 with rfl|rfl
   ·    have hsB:(⟨i,0,ay_ B v⟩:Sp)∈ab_ B:=a2_.2 ⟨i,rfl,hiB,.inr ⟨by rw [← hr];exact h3,.inl rfl,b0,b1,hfB⟩⟩
        have e:∀ (C:Au) (t:Tr),0≤ay_ C v→an_ C ⟨i,0,ay_ C v⟩ (ay_ C t)=ay_ C (.node i [t,v]):=fun C t h0=>by
         rw [bb_,ax_,ax_,ax_]
         unfold an_ Sp.args
         rw [if_neg (by show ¬ ay_ C v<0;omega),if_pos rfl]
        rw [← hvo,e A t (by omega),e A u (by omega)] at h
        have:=fc_ hA hB hr hL d _ _ (leaf A [t,v] rfl (by rw [h3];rfl) (nl2 t v ht hv)).1 (leaf A [u,v] rfl (by rw [h3];rfl) (nl2 u v hu hv)).1 h
        rw [← e B t b0,← e B u b0] at this
        exact b1_.2 ⟨_,hsB,this⟩
   ·    have hsB:(⟨i,1,ay_ B v⟩:Sp)∈ab_ B:=a2_.2 ⟨i,rfl,hiB,.inr ⟨by rw [← hr];exact h3,.inr rfl,b0,b1,hfB⟩⟩
        have e:∀ (C:Au) (t:Tr),0≤ay_ C v→an_ C ⟨i,1,ay_ C v⟩ (ay_ C t)=ay_ C (.node i [v,t]):=fun C t h0=>by
         rw [bb_,ax_,ax_,ax_]
         unfold an_ Sp.args
         rw [if_neg (by show ¬ ay_ C v<0;omega),if_neg (by show ¬ (1:Int)=0;decide)]
        rw [← hvo,e A t (by omega),e A u (by omega)] at h
        have:=fc_ hA hB hr hL d _ _ (leaf A [v,t] rfl (by rw [h3];rfl) (nl2 v t hv ht)).1 (leaf A [v,u] rfl (by rw [h3];rfl) (nl2 v u hv hu)).1 h
        rw [← e B t b0,← e B u b0] at this
        exact b1_.2 ⟨_,hsB,this⟩
theorem hr_.symm {A B:Au} (hr:A.r=B.r) (h:hr_ A B):hr_ B A:=fun t ht=>(h t (by rw [hr];exact ht)).symm
theorem vo_ {A B:Au} (hA:AuOk A) (hB:AuOk B) (hr:A.r=B.r) (hL:hr_ A B) {t u:Tr} (ht:bc_ A.r t=0) (hu:bc_ A.r u=0):Eqv A (ay_ A t) (ay_ A u)↔Eqv B (ay_ B t) (ay_ B u):=
 ⟨fun h d e=>h d (fc_ hB hA hr.symm (hL.symm hr) d t u (by rw [← hr];exact ht) (by rw [← hr];exact hu) e),fun h d e=>h d (fc_ hA hB hr hL d t u ht hu e)⟩
end Go.Mn
