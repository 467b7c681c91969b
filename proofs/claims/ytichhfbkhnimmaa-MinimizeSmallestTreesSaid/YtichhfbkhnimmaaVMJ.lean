/- Automata, plainly: quotients. No condition. -/
import Derived.Test.YtichhfbkhnimmaaVME
set_option linter.unusedSimpArgs false
set_option linter.unusedVariables false
set_option maxHeartbeats 400000
namespace Go.Mn
open Go Go.Rt
theorem o7_ {A:Au} (hok:AuOk A) {i:Nat} {k:Int} (h:A.r[i]?=some k):∃ m:Nat,k=(m:Int)∧m≤2:=by
 have:=hok.alpha.rng k (List.mem_of_getElem? h)
 exact⟨k.toNat,by omega,by omega⟩
mutual
theorem eo_ {A:Au} (hok:AuOk A):∀ t:Tr,nodesE A.r t=0→a0_ A t∈ad_ A
 | .node s l,h=>by
   obtain⟨h1,h2,h3,h4⟩:=bl_ h
   obtain⟨i,rfl⟩:=Int.eq_ofNat_of_zero_le h1
   have hi:i<A.r.length:=by omega
   rw [bo_]
   refine dl_ hok (k:=l.length) ?_ (by rw [bd_,List.length_map]) (f1_ hok l h4)
   rw [List.getElem?_eq_getElem hi,h3,Int.toNat_natCast,List.getD_eq_getElem?_getD,List.getElem?_eq_getElem hi];rfl
theorem f1_ {A:Au} (hok:AuOk A):∀ l:List Tr,bf_ A.r l=0→ ∀ x∈ay_ A l,x∈ad_ A
 | [],_,x,hx=>by rw [ay_] at hx;cases hx
 |t::ts,h,x,hx=>by
  obtain⟨h1,h2⟩:=cd_ h
  rw [ay_] at hx
  rcases List.mem_cons.1 hx with rfl|hx
  ·exact eo_ hok t h1
  ·exact f1_ hok ts h2 x hx
end
def e2_ (A:Au) (x:Int):Prop:= ∃ t,nodesE A.r t=0∧a0_ A t=x
theorem p1_ {A:Au}:∀ {ds:List Int},(∀ d∈ds,e2_ A d)→ ∃ l:List Tr,bf_ A.r l=0∧ay_ A l=ds
 | [],_=>⟨[],by rw [bf_],by rw [ay_]⟩
 |d::ds,h=>by
  obtain⟨t,h1,h2⟩:=h d (by simp)
  obtain⟨l,h3,h4⟩:=p1_ fun x hx=>h x (List.mem_cons_of_mem _ hx)
  exact⟨t::l,by rw [bf_,if_neg (by omega)];exact h3,by rw [ay_,h2,h4]⟩
theorem sv_ {A:Au} {i:Nat} {ds:List Int} (hi:A.r[i]?=some (ds.length:Int)) (h:∀ d∈ds,e2_ A d):e2_ A (atI A i ds):=by
 obtain⟨l,h1,h2⟩:=p1_ h
 have hlen:l.length=ds.length:=by rw [← h2,bd_,List.length_map]
 refine⟨.node i l,?_,by rw [bo_,h2]⟩
 have hir:=(List.getElem?_eq_some_iff.1 hi).1
 rw [nodesE,if_neg (by omega),if_neg ?_]
 ·exact h1
 ·rw [Int.toNat_natCast,List.getD_eq_getElem?_getD,hi,hlen];simp
theorem i6_ {A:Au} {i:Nat}:∀ {ls:List (List Int)} {out:List Int},(∀ x∈out,e2_ A x)→(∀ l∈ls,e2_ A (atI A i l))→ ∀ x∈bw_ A i ls out,e2_ A x
 | [],out,h,_,x,hx=>h x hx
 |l::ls,out,h,hl,x,hx=>by
  refine i6_ (ls:=ls) (out:=a5_ A i out l) (fun y hy=>?_) (fun y hy=>hl y (List.mem_cons_of_mem _ hy)) x hx
  unfold a5_ at hy
  split at hy
  ·exact h y hy
  ·rcases List.mem_append.1 hy with hy|hy
   ·exact h y hy
   ·rw [List.mem_singleton] at hy;subst hy;exact hl l (by simp)
theorem ir_ {A:Au} (hok:AuOk A) {of out:List Int} (h1:∀ x∈of,e2_ A x) (h2:∀ x∈out,e2_ A x):∀ j,j≤A.r.length→ ∀ x∈bn_ A of out j,e2_ A x
 |0,_,x,hx=>h2 x hx
 |j+1,hj,x,hx=>by
  rw [cc_] at hx
  obtain⟨r1,r2,r3⟩:=iu_ hok (show j<A.r.length by omega)
  refine i6_ (ir_ hok h1 h2 j (by omega)) (fun l hl=>?_) x hx
  obtain⟨ds,d1,d2,d3⟩:=jb_.1 hl
  obtain rfl:l=ds:=d3
  exact sv_ (by rw [d1];exact r1) fun d hd=>h1 d (d2 d hd)
theorem jq_ {A:Au} (hok:AuOk A) {x:Int} (hx:x∈ad_ A):e2_ A x:=by
 have key:∀ k,∀ x∈as_ A k,e2_ A x:=by
  intro k
  induction k with
  |zero=>exact fun x hx=>by cases hx
  |succ k ih=>exact fun x hx=>ir_ hok ih ih _ (Nat.le_refl _) x hx
 exact key _ x hx
theorem b0_ {A:Au} (hok:AuOk A) {x:Int} (hx:x∈ad_ A):InA A x:=(b9_ hok (A.f.length+1)).rng x hx
theorem wc_ {A:Au} (hok:AuOk A):(ad_ A).Nodup:=(b9_ hok (A.f.length+1)).nd
def EqvL (A:Au):List Int→List Int→Prop
 | [],[]=>True
 |x::xs,y::ys=>Eqv A x y∧EqvL A xs ys
 |_,_=>False
theorem EqvL.len {A:Au}:∀ {xs ys:List Int},EqvL A xs ys→xs.length=ys.length
 | [],[],_=>rfl
 |x::xs,y::ys,h=>by rw [List.length_cons,List.length_cons,EqvL.len h.2]
 | [],_::_,h=>h.elim
 |_::_,[],h=>h.elim
theorem EqvL.map {A:Au} {α:Type} {f g:α→Int}:∀ {l:List α},(∀ x∈l,Eqv A (f x) (g x))→EqvL A (l.map f) (l.map g)
 | [],_=>trivial
 |x::xs,h=>⟨h x (by simp),EqvL.map fun y hy=>h y (List.mem_cons_of_mem _ hy)⟩
theorem cong {A:Au} (hok:AuOk A) {i:Nat} {xs ys:List Int} (hi:A.r[i]?=some (xs.length:Int)) (hx:∀ x∈xs,x∈ad_ A) (hy:∀ y∈ys,y∈ad_ A) (h:EqvL A xs ys):Eqv A (atI A i xs) (atI A i ys):=by
 have hir:=(List.getElem?_eq_some_iff.1 hi).1
 have hr:A.r.getD i 0=(xs.length:Int):=by rw [List.getD_eq_getElem?_getD,hi];rfl
 have h2:=(hok.alpha.rng _ (List.mem_of_getElem? hi)).2
 match xs,ys,h with
 | [],[],_=>exact Eqv.refl A _
 | [x],[y],h=>
   have hs:(⟨i,0, -1⟩:Sp)∈ag_ A:=bx_.2 ⟨i,rfl,hir,.inl ⟨hr,rfl,rfl⟩⟩
   exact h.1.next hs
 | [x,x2],[y,y2],h=>
   have hx2:=hx x2 (by simp)
   have hy1:=hy y (by simp)
   obtain⟨a0,a1⟩:=b0_ hok hx2
   obtain⟨b0,b1⟩:=b0_ hok hy1
   have hs1:(⟨i,0,x2⟩:Sp)∈ag_ A:=bx_.2 ⟨i,rfl,hir,.inr ⟨hr,.inl rfl,a0,a1,hx2⟩⟩
   have hs2:(⟨i,1,y⟩:Sp)∈ag_ A:=bx_.2 ⟨i,rfl,hir,.inr ⟨hr,.inr rfl,b0,b1,hy1⟩⟩
   have e1:=h.1.next hs1
   have e2:=h.2.1.next hs2
   have f1:∀ z,au_ A ⟨i,0,x2⟩ z=atI A i [z,x2]:=fun z=>by
    unfold au_ Sp.args
    rw [if_neg (by show ¬ x2<0;omega),if_pos rfl]
   have f2:∀ z,au_ A ⟨i,1,y⟩ z=atI A i [y,z]:=fun z=>by
    unfold au_ Sp.args
    rw [if_neg (by show ¬ y<0;omega),if_neg (by show ¬ (1:Int)=0;decide)]
   rw [f1,f1] at e1
   rw [f2,f2] at e2
   exact e1.trans e2
 |_::_::_::_,_,_=>simp only [List.length_cons] at h2;omega
def clsI (A:Au) (x:Int):Nat:=clsA A x.toNat
theorem tz_ {A:Au} (hok:AuOk A) {x y:Int} (hx:InA A x) (hy:InA A y):clsI A x=clsI A y↔Eqv A x y:=by
 obtain⟨x0,x1⟩:=hx
 obtain⟨y0,y1⟩:=hy
 have:=w0_ hok (p:=x.toNat) (q:=y.toNat) (by omega) (by omega)
 rwa [Int.toNat_of_nonneg x0,Int.toNat_of_nonneg y0] at this
def idxC (A:Au) (reps:List Int) (x:Int):Nat:=(reps.map (clsI A)).idxOf (clsI A x)
def qT (A:Au) (reps:List Int) (i:Int) (ds:List Int):Int:=(idxC A reps (atI A i (ds.map (phi reps))):Nat)
def qF (A:Au) (reps:List Int) (s:Nat):Bool:=finI A (reps.getD s 0)
def quoA (A:Au) (reps:List Int):Au:=d7_ A.r reps.length (qT A reps) (qF A reps)
structure RepsOk (A:Au) (reps:List Int):Prop where
 found:∀ r∈reps,r∈ad_ A
 nd:(reps.map (clsI A)).Nodup
 all:∀ x∈ad_ A,clsI A x∈reps.map (clsI A)
section
variable {A:Au} {reps:List Int}
theorem RepsOk.inA (hok:AuOk A) (h:RepsOk A reps):∀ r∈reps,InA A r:=fun r hr=>b0_ hok (h.found r hr)
theorem RepsOk.nodup (h:RepsOk A reps):reps.Nodup:=by
 have:=h.nd
 rw [List.nodup_iff_pairwise_ne,List.pairwise_map] at this
 exact this.imp fun hne e=>hne (by rw [e])
theorem RepsOk.len (hok:AuOk A) (h:RepsOk A reps):reps.length≤A.f.length:=dj_ _ _ h.nodup fun r hr=>h.inA hok r hr
theorem RepsOk.pos (hk:chk A=0) (h:RepsOk A reps):0<reps.length:=by
 have hok:=a6_ hk
 obtain⟨i,hi⟩:=List.getElem?_of_mem (k6_ hk)
 have:=h.all _ (dl_ hok (k:=0) (ds:=[]) hi rfl (by simp))
 refine List.length_pos_iff.2 fun e=>?_
 rw [e] at this;cases this
theorem oa_ (h:RepsOk A reps) {x:Int} (hx:x∈ad_ A):idxC A reps x<reps.length:=by
 have:=List.idxOf_lt_length_of_mem (h.all x hx)
 rwa [List.length_map] at this
theorem tf_ (h:RepsOk A reps) {d:Int} (hd:0≤d∧d<(reps.length:Int)):phi reps d∈ad_ A:=h.found _ (yg_ hd)
theorem ul_ (hok:AuOk A) (h:RepsOk A reps) {x:Int} (hx:x∈ad_ A):Eqv A (phi reps (idxC A reps x:Nat)) x:=by
 have hlt:=oa_ h hx
 have hm:=h.all x hx
 have e:(reps.map (clsI A))[idxC A reps x]?=some (clsI A x):=by
  unfold idxC
  rw [List.getElem?_eq_getElem (List.idxOf_lt_length_of_mem hm),List.getElem_idxOf]
 rw [List.getElem?_map,List.getElem?_eq_getElem hlt] at e
 have e:clsI A reps[idxC A reps x]=clsI A x:=Option.some.inj e
 have hp:phi reps (idxC A reps x:Nat)=reps[idxC A reps x]:=by
  unfold phi
  rw [Int.toNat_natCast,List.getD_eq_getElem?_getD,List.getElem?_eq_getElem hlt];rfl
 rw [hp]
 exact (tz_ hok (h.inA hok _ (List.getElem_mem hlt)) (b0_ hok hx)).1 e
theorem qj_ (hok:AuOk A) {x y:Int} (hx:InA A x) (hy:InA A y) (e:Eqv A x y):idxC A reps x=idxC A reps y:=by
 unfold idxC
 rw [(tz_ hok hx hy).2 e]
theorem wg_ (hok:AuOk A) (h:RepsOk A reps) {d:Int} (hd:0≤d∧d<(reps.length:Int)):((idxC A reps (phi reps d):Nat):Int)=d:=by
 obtain⟨m,rfl⟩:=Int.eq_ofNat_of_zero_le hd.1
 have hm:m<reps.length:=by omega
 unfold idxC phi
 rw [Int.toNat_natCast,List.getD_eq_getElem?_getD,List.getElem?_eq_getElem hm]
 have:(reps.map (clsI A))[m]?=some (clsI A reps[m]):=by rw [List.getElem?_map,List.getElem?_eq_getElem hm];rfl
 have hlt:=(List.getElem?_eq_some_iff.1 this).1
 have:=(List.getElem?_eq_some_iff.1 this).2
 rw [Option.getD_some,← this,List.Nodup.idxOf_getElem h.nd]
theorem k5_:(quoA A reps).f.length=reps.length:=a7_ ..
theorem o1_ (hk:chk A=0) (h:RepsOk A reps) {i k:Nat} {ds:List Int} (hi:A.r[i]?=some (k:Int)) (hl:ds.length=k) (hd:∀ d∈ds,0≤d∧d<(reps.length:Int)):atI A i (ds.map (phi reps))∈ad_ A:=
 dl_ (a6_ hk) hi (by rw [List.length_map];exact hl) fun x hx=>by
  obtain⟨d,hd',rfl⟩:=List.mem_map.1 hx
  exact tf_ h (hd d hd')
theorem jp_ (hk:chk A=0) (h:RepsOk A reps):AuOk (quoA A reps):=by
 have hok:=a6_ hk
 refine td_ (eb_ hk) (h.pos hk) (by have:=h.len hok;have:=hok.hi;omega) fun i k p hi hp=>?_
 have:=oa_ h (o1_ hk h hi (fd_ _ _ _) (hk_ (h.pos hk) k p))
 unfold qT
 omega
theorem rt_ (hk:chk A=0) (h:RepsOk A reps):chk (quoA A reps)=0:=ow_ (show alphaE A.r=0 from eb_ hk) (jp_ hk h)
theorem zq_ (hk:chk A=0) (h:RepsOk A reps) {s:Int} {ds:List Int} (hf:Fits (quoA A reps) s ds):atI (quoA A reps) s ds=(idxC A reps (atI A s (ds.map (phi reps))):Nat)∧atI A s (ds.map (phi reps))∈ad_ A:=by
 obtain⟨i,rfl,hi⟩:=ni_ (jp_ hk h) hf
 exact⟨x9_ (h.pos hk) hf,o1_ hk h hi rfl fun d hd=>by have:=hf.rng d hd;rw [k5_] at this;exact this⟩
mutual
theorem nh_ (hk:chk A=0) (h:RepsOk A reps):∀ t:Tr,nodesE A.r t=0→a0_ (quoA A reps) t=(idxC A reps (a0_ A t):Nat)
 | .node s l,hn=>by
   have hok:=a6_ hk
   have hf:Fits (quoA A reps) s (ay_ (quoA A reps) l):=j5_ (jp_ hk h) hn
   obtain⟨h1,h2,h3,h4⟩:=bl_ hn
   obtain⟨q1,q2⟩:=zq_ hk h hf
   obtain⟨i,rfl,hi⟩:=ni_ (jp_ hk h) hf
   have hi:A.r[i]?=some ((ay_ (quoA A reps) l).length:Int):=hi
   have ht:=eo_ hok _ hn
   rw [bo_] at ht
   rw [bo_,bo_,q1,qj_ hok (b0_ hok q2) (b0_ hok ht)]
   have hl:=kd_ hk h l h4
   refine cong hok (by rw [List.length_map];exact hi) (fun x hx=>?_) (f1_ hok l h4) hl
   obtain⟨d,hd,rfl⟩:=List.mem_map.1 hx
   refine tf_ h ?_
   have:=hf.rng d hd
   rwa [k5_] at this
theorem kd_ (hk:chk A=0) (h:RepsOk A reps):∀ l:List Tr,bf_ A.r l=0→EqvL A ((ay_ (quoA A reps) l).map (phi reps)) (ay_ A l)
 | [],_=>by rw [ay_,ay_];trivial
 |t::ts,hn=>by
  obtain⟨h1,h2⟩:=cd_ hn
  rw [ay_,ay_,nh_ hk h t h1]
  exact⟨ul_ (a6_ hk) h (eo_ (a6_ hk) t h1),kd_ hk h ts h2⟩
end
theorem my_ (hk:chk A=0) (h:RepsOk A reps) {d:Int} (hd:0≤d∧d<(reps.length:Int)):d∈ad_ (quoA A reps):=by
 obtain⟨t,h1,h2⟩:=jq_ (a6_ hk) (tf_ h hd)
 have:=eo_ (jp_ hk h) t h1
 rw [nh_ hk h t h1,h2,wg_ (a6_ hk) h hd] at this
 exact this
end
end Go.Mn
namespace Go.Mn
open Go Go.Rt
section
variable {A:Au} {reps reps':List Int}
def aaz (A:Au):Au:=c6_ A (ad_ A)
end
def af_ (A:Au):List Int:=((List.range A.f.length).filter fun (s:Nat)=>decide ((s:Int)∈ad_ A) && (List.range s).all fun (r:Nat)=>!decide ((r:Int)∈ad_ A) || !decide (clsA A r=clsA A s)).map fun (s:Nat)=>(s:Int)
theorem f8_ {A:Au} {x:Int}:x∈af_ A↔ ∃ s:Nat,x=s∧s<A.f.length∧(s:Int)∈ad_ A∧ ∀ r:Nat,r<s→(r:Int)∈ad_ A→clsA A r≠clsA A s:=by
 unfold af_
 rw [List.mem_map]
 constructor
 ·rintro⟨s,hs,rfl⟩
  rw [List.mem_filter,List.mem_range,Bool.and_eq_true,decide_eq_true_iff,List.all_eq_true] at hs
  refine⟨s,rfl,hs.1,hs.2.1,fun r hr hf e=>?_⟩
  have:=hs.2.2 r (List.mem_range.2 hr)
  rw [decide_eq_true hf,decide_eq_true e] at this
  cases this
 ·rintro⟨s,rfl,h1,h2,h3⟩
  refine⟨s,?_,rfl⟩
  rw [List.mem_filter,List.mem_range,Bool.and_eq_true,decide_eq_true_iff,List.all_eq_true]
  refine⟨h1,h2,fun r hr=>?_⟩
  rw [List.mem_range] at hr
  by_cases hf:(r:Int)∈ad_ A
  ·rw [decide_eq_true hf,decide_eq_false (h3 r hr hf)];rfl
  ·rw [decide_eq_false hf];rfl
theorem cx_ {A:Au} (hok:AuOk A):RepsOk A (af_ A):=by
  refine⟨fun r hr=>?_,?_,fun x hx=>?_⟩
  · obtain⟨s,rfl,_,h2,_⟩:=f8_.1 hr
    exact h2
  · rw [List.nodup_iff_pairwise_ne,List.pairwise_map]
    have hlt:(af_ A).Pairwise fun a b=>a<b:=by
      unfold af_
      rw [List.pairwise_map]
      refine List.Pairwise.filter _ ?_
      exact List.pairwise_lt_range.imp fun h=>by omega
    refine List.Pairwise.imp_of_mem ?_ hlt
    intro a b ha hb hab e
    obtain⟨s,rfl,h1,h2,h3⟩:=f8_.1 ha
    obtain⟨r,rfl,g1,g2,g3⟩:=f8_.1 hb
    refine g3 s (by omega) h2 ?_
    exact e
  · obtain ⟨x0,x1⟩:=b0_ hok hx
    obtain⟨m,rfl⟩:=Int.eq_ofNat_of_zero_le x0
    have key:∀ m:Nat,m<A.f.length→(m:Int)∈ad_ A→ ∃ r∈af_ A,clsI A r=clsA A m:=by
      intro m
      induction m using Nat.strongRecOn with
      | _ m ih=>
        intro hm hf
        by_cases hr:∀ r:Nat,r<m→(r:Int)∈ad_ A→clsA A r≠clsA A m
        ·exact⟨m,f8_.2 ⟨m,rfl,hm,hf,hr⟩,rfl⟩
        · obtain⟨r,h1⟩:=Classical.not_forall.1 hr
          obtain⟨h1,h2⟩:=Classical.not_imp.1 h1
          obtain⟨h2,h3⟩:=Classical.not_imp.1 h2
          have h3:=Classical.not_not.1 h3
          obtain⟨q,q1,q2⟩:=ih r h1 (by omega) h2
          exact⟨q,q1,q2.trans h3⟩
    obtain⟨r,h1,h2⟩:=key m (by omega) hx
    exact List.mem_map.2 ⟨r,h1,h2⟩
def bs_ (A:Au):Au:=aaz (quoA A (af_ A))
def bu_ (A:Au) (p:Nat):Int:=if (p:Int)∈ad_ A then hasI (ad_ (quoA A (af_ A))) (idxC A (af_ A) (p:Int):Nat) else -1
theorem ve_ {A:Au} (hk:chk A=0):chk (aaz A)=0:=vq_ hk (hw_ (a6_ hk) (k6_ hk))
theorem sm_ {A:Au} (hk:chk A=0):chk (bs_ A)=0:=ve_ (rt_ hk (cx_ (a6_ hk)))
def nv_ (A B:Au):Prop:= ∀ t:Tr,nodesE A.r t=0→finI A (a0_ A t)=finI B (a0_ B t)
theorem nv_.symm {A B:Au} (hr:A.r=B.r) (h:nv_ A B):nv_ B A:=fun t ht=>(h t (by rw [hr];exact ht)).symm
end Go.Mn
namespace Go.Mn
open Go Go.Rt
theorem nv_.trans {A B C:Au} (hr:A.r=B.r) (h:nv_ A B) (k:nv_ B C):nv_ A C:=fun t ht=>(h t ht).trans (k t (by rw [← hr];exact ht))
end Go.Mn
namespace Go.Mn
open Go Go.Rt
def lexL:List Nat→List Nat→Prop
 |a::ra,b::bs=>a<b∨(a=b∧lexL ra bs)
 |_,_=>False
def slt (u v:List Nat):Prop:=u.length<v.length∨(u.length=v.length∧lexL u v)
def sle (u v:List Nat):Prop:=u=v∨slt u v
theorem p0_:∀ u:List Nat,¬ lexL u u
 | [],h=>h
 |a::ra,h=>by
  rcases h with h| ⟨_,h⟩
  ·omega
  ·exact p0_ ra h
theorem jy_:∀ {u v w:List Nat},lexL u v→lexL v w→lexL u w
 |a::ra,b::bs,c::cs,h,k=>by
  rcases h with h| ⟨rfl,h⟩
  ·rcases k with k| ⟨rfl,k⟩
   ·exact .inl (by omega)
   ·exact .inl h
  ·rcases k with k| ⟨rfl,k⟩
   ·exact .inl k
   ·exact .inr ⟨rfl,jy_ h k⟩
theorem j3_:∀ {u v:List Nat},u.length=v.length→lexL u v∨u=v∨lexL v u
 | [],[],_=> .inr (.inl rfl)
 |a::ra,b::bs,h=>by
  rcases Nat.lt_trichotomy a b with hl|rfl|hl
  ·exact .inl (.inl hl)
  ·rcases j3_ (u:=ra) (v:=bs) (by simpa using h) with h|h|h
   ·exact .inl (.inr ⟨rfl,h⟩)
   ·exact .inr (.inl (by rw [h]))
   ·exact .inr (.inr (.inr ⟨rfl,h⟩))
  ·exact .inr (.inr (.inl hl))
 | [],_::_,h=>by cases h
 |_::_,[],h=>by cases h
theorem iz_:∀ {u v:List Nat} {x y:Nat},u.length=v.length→(lexL (u++ [x]) (v++ [y])↔lexL u v∨(u=v∧x<y))
 | [],[],x,y,_=>⟨fun h=>h.elim (fun h=> .inr ⟨rfl,h⟩) (fun h=>h.2.elim),fun h=>h.elim (fun h=>h.elim) (fun h=> .inl h.2)⟩
 |a::    ra,b::bs,x,y,hlen=>by
  have ih:=iz_ (u:=ra) (v:=bs) (x:=x) (y:=y) (by simpa using hlen)
  clear hlen
  constructor
  ·rintro (h| ⟨rfl,h⟩)
   ·exact .inl (.inl h)
   ·    rcases ih.1 h with h2| ⟨e,h2⟩
        ·exact .inl (.inr ⟨rfl,h2⟩)
        ·exact .inr ⟨by rw [e],h2⟩
  ·rintro ((h| ⟨rfl,h⟩)| ⟨h,h2⟩)
   ·exact .inl h
   ·exact .inr ⟨rfl,ih.2 (.inl h)⟩
   ·    obtain⟨rfl,rfl⟩:=List.cons.inj h
        exact .inr ⟨rfl,ih.2 (.inr ⟨rfl,h2⟩)⟩
 | [],_::_,_,_,h=>by cases h
 |_::_,[],_,_,h=>by cases h
theorem n5_ (u:List Nat):¬ slt u u:=fun h=>h.elim (fun h=>by omega) (fun h=>p0_ u h.2)
theorem gk_ {u v w:List Nat} (h:slt u v) (k:slt v w):slt u w:=by
 rcases h with h| ⟨h,h2⟩
 ·rcases k with k| ⟨k,_⟩
  ·exact .inl (by omega)
  ·exact .inl (by omega)
 ·rcases k with k| ⟨k,k2⟩
  ·exact .inl (by omega)
  ·exact .inr ⟨by omega,jy_ h2 k2⟩
theorem si_ {u v w:List Nat} (h:sle u v) (k:sle v w):sle u w:=by
 rcases h with rfl|h
 ·exact k
 ·rcases k with rfl|k
  ·exact .inr h
  ·exact .inr (gk_ h k)
theorem sb_ (u v:List Nat):slt u v∨u=v∨slt v u:=by
 rcases Nat.lt_trichotomy u.length v.length with h|h|h
 ·exact .inl (.inl h)
 ·rcases j3_ h with h2|h2|h2
  ·exact .inl (.inr ⟨h,h2⟩)
  ·exact .inr (.inl h2)
  ·exact .inr (.inr (.inr ⟨h.symm,h2⟩))
 ·exact .inr (.inr (.inl h))
theorem lj_ {u v:List Nat} {x y:Nat} (h:slt u v):slt (u++ [x]) (v++ [y]):=by
 rcases h with h| ⟨h,h2⟩
 ·exact .inl (by simp only [List.length_append,List.length_singleton];omega)
 ·exact .inr ⟨by simp only [List.length_append,List.length_singleton];omega,(iz_ h).2 (.inl h2)⟩
theorem pr_ {u:List Nat} {x y:Nat} (h:x<y):slt (u++ [x]) (u++ [y]):= .inr ⟨by simp,(iz_ rfl).2 (.inr ⟨rfl,h⟩)⟩
theorem vz_ {u v:List Nat} {x:Nat} (h:sle u v):sle (u++ [x]) (v++ [x]):=by
 rcases h with rfl|h
 ·exact .inl rfl
 ·exact .inr (lj_ h)
def spAt (A:Au) (i:Nat):Sp:=(ag_ A).getD i ⟨0,0,0⟩
def a2_ (A:Au) (l:List Nat):List Sp:=l.map (spAt A)
theorem gs_ {A:Au} {i:Nat} (h:i<(ag_ A).length):spAt A i∈ag_ A:=by
 unfold spAt
 rw [List.getD_eq_getElem?_getD,List.getElem?_eq_getElem h]
 exact List.getElem_mem h
def jc_ (A:Au) (l:List Nat) (p q:Int):Prop:=(∀ i∈l,i<(ag_ A).length)∧finI A (b4_ A (a2_ A l) p)≠finI A (b4_ A (a2_ A l) q)
theorem hj_ {A:Au} {l:List Nat} {p q:Int} (h:jc_ A l p q):Dist A l.length p q:=
 ⟨a2_ A l,by unfold a2_;rw [List.length_map],fun s hs=>by
  obtain⟨i,hi,rfl⟩:=List.mem_map.1 hs
  exact gs_ (h.1 i hi),h.2⟩
theorem so_ {A:Au}:∀ {l:List Sp},(∀ s∈l,s∈ag_ A)→ ∃ u:List Nat,(∀ i∈u,i<(ag_ A).length)∧a2_ A u=l
 | [],_=>⟨[],fun i hi=>(by cases hi),rfl⟩
 |s::l,h=>by
  obtain⟨i,hi⟩:=List.getElem?_of_mem (h s (by simp))
  obtain⟨u,h1,h2⟩:=so_ fun x hx=>h x (List.mem_cons_of_mem _ hx)
  refine⟨i::u,fun j hj=>?_,?_⟩
  ·rcases List.mem_cons.1 hj with rfl|hj
   ·exact (List.getElem?_eq_some_iff.1 hi).1
   ·exact h1 j hj
  ·unfold a2_ at*
   rw [List.map_cons,h2]
   unfold spAt
   rw [List.getD_eq_getElem?_getD,hi];rfl
theorem xd_ {A:Au} {d:Nat} {p q:Int} (h:Dist A d p q):∃ u:List Nat,u.length=d∧jc_ A u p q:=by
 obtain⟨l,h1,h2,h3⟩:=h
 obtain⟨u,h4,h5⟩:=so_ h2
 exact⟨u,by rw [← h1,← h5];unfold a2_;rw [List.length_map],h4,by rw [h5];exact h3⟩
theorem fe_ (A:Au) (l:List Sp) (s:Sp) (p:Int):b4_ A (l++ [s]) p=au_ A s (b4_ A l p):=by unfold b4_;rw [List.foldl_append];rfl
theorem lv_ (A:Au) (l r:List Sp) (p:Int):b4_ A (l++r) p=b4_ A r (b4_ A l p):=by unfold b4_;rw [List.foldl_append]
structure Way where
 p:Int
 q:Int
 l:List Nat
def Way.pr (w:Way):Int × Int:=(w.p,w.q)
def av_ (A:Au) (w:Way) (i:Nat):Way:=⟨au_ A (spAt A i) w.p,au_ A (spAt A i) w.q,w.l++ [i]⟩
def fr_ (A:Au) (w:Way) (W:List Way) (i:Nat):List Way:=if (av_ A w i).p=(av_ A w i).q∨(av_ A w i).pr∈W.map Way.pr then W else W++ [av_ A w i]
structure BInv (A:Au) (p q:Int) (k i:Nat) (W:List Way):Prop where
 st:W[0]?=some ⟨p,q,[]⟩
 run:∀ w∈W,(∀ j∈w.l,j<(ag_ A).length)∧w.p=b4_ A (a2_ A w.l) p∧w.q=b4_ A (a2_ A w.l) q∧InA A w.p∧InA A w.q
 nd:(W.map Way.pr).Nodup
 par:∀ w∈W,w.l=[]∨ ∃ (j:Nat) (u:Way) (x:Nat),W[j]?=some u∧w.l=u.l++ [x]∧(j<k∨(j=k∧x<i))
 srt:W.Pairwise fun u v=>slt u.l v.l
 cl:∀ (j:Nat) (u:Way) (x:Nat),W[j]?=some u→x<(ag_ A).length→(j<k∨(j=k∧x<i))→(av_ A u x).p=(av_ A u x).q∨ ∃ v∈W,v.pr=(av_ A u x).pr∧sle v.l (u.l++ [x])
 eq:∀ (j:Nat) (u:Way),W[j]?=some u→j<k→finI A u.p=finI A u.q
section
variable {A:Au} {p q:Int}
theorem BInv.init (hp:InA A p) (hq:InA A q):BInv A p q 0 0 [⟨p,q,[]⟩]:=by
 refine⟨rfl,fun w hw=>?_,by simp,fun w hw=>?_,by simp,fun j u x _ _ h=>by omega,fun j u _ h=>by omega⟩
 ·rw [List.mem_singleton] at hw;subst hw
  exact⟨fun j hj=>(by cases hj),rfl,rfl,hp,hq⟩
 ·rw [List.mem_singleton] at hw;subst hw;exact .inl rfl
theorem le_ {W:List Way} {v:Way} {j:Nat} {u:Way} (h:W[j]?=some u):(W++ [v])[j]?=some u:=by
 rw [List.getElem?_append_left (List.getElem?_eq_some_iff.1 h).1];exact h
theorem r5_ {W:List Way} {v:Way} {j:Nat} {u:Way} (h:(W++ [v])[j]?=some u):W[j]?=some u∨(j=W.length∧u=v):=by
 rcases Nat.lt_or_ge j W.length with hl|hl
 ·rw [List.getElem?_append_left hl] at h;exact .inl h
 ·rw [List.getElem?_append_right hl] at h
  have:=(List.getElem?_eq_some_iff.1 h).1
  rw [List.length_singleton] at this
  have e:j=W.length:=by omega
  subst e
  rw [Nat.sub_self] at h
  exact .inr ⟨rfl,(Option.some.inj h).symm⟩
theorem BInv.add (hok:AuOk A) {k i:Nat} {W:List Way} {w:Way} (h:BInv A p q k i W) (hw:W[k]?=some w) (hi:i<(ag_ A).length):BInv A p q k (i+1) (fr_ A w W i)∧(fr_ A w W i)[k]?=some w:=by
  have hkl:=(List.getElem?_eq_some_iff.1 hw).1
  have hwm:=List.mem_of_getElem? hw
  obtain⟨w1,w2,w3,w4,w5⟩:=h.run w hwm
  have hsp:=bx_.1 (gs_ hi)
  unfold fr_
  by_cases hc:(av_ A w i).p=(av_ A w i).q∨(av_ A w i).pr∈W.map Way.pr
  · rw [if_pos hc]
    refine⟨⟨h.st,h.run,h.nd,fun v hv=>?_,h.srt,fun j u x hj hx hlt=>?_,h.eq⟩,hw⟩
    · rcases h.par v hv with e| ⟨j,u,x,h1,h2,h3⟩
      ·exact .inl e
      ·exact .inr ⟨j,u,x,h1,h2,by omega⟩
    · by_cases hold:j<k∨(j=k∧x<i)
      ·exact h.cl j u x hj hx hold
      · obtain ⟨rfl,rfl⟩:j=k∧x=i:=by omega
        rw [hw] at hj
        obtain rfl:=Option.some.inj hj
        rcases hc with hc|hc
        ·exact .inl hc
        · obtain⟨v,hv,e⟩:=List.mem_map.1 hc
          refine .inr ⟨v,hv,e,?_⟩
          rcases h.par v hv with e2| ⟨j',u',x',h1,h2,h3⟩
          · refine .inr (.inl ?_)
            rw [e2,List.length_append];simp
          · rw [h2]
            rcases h3 with h3| ⟨rfl,h3⟩
            · refine .inr (lj_ ?_)
              have hsrt:=h.srt
              rw [List.pairwise_iff_getElem] at hsrt
              have:=hsrt j' j (by omega) hkl h3
              rw [(List.getElem?_eq_some_iff.1 h1).2,(List.getElem?_eq_some_iff.1 hw).2] at this
              exact this
            · rw [hw] at h1
              obtain rfl:=Option.some.inj h1
              exact .inr (pr_ h3)
  · rw [if_neg hc]
    have hc1:¬ (av_ A w i).p=(av_ A w i).q:=fun e=>hc (.inl e)
    have hc2:(av_ A w i).pr ∉ W.map Way.pr:=fun e=>hc (.inr e)
    refine⟨⟨le_ h.st,fun v hv=>?_,?_,fun v hv=>?_,?_,fun j u x hj hx hlt=>?_,fun j u hj hlt=>?_⟩,le_ hw⟩
    · rcases List.mem_append.1 hv with hv|hv
      ·exact h.run v hv
      · rw [List.mem_singleton] at hv;subst hv
        refine⟨fun j hj=>?_,?_,?_,db_ hok hsp w4,db_ hok hsp w5⟩
        · rcases List.mem_append.1 hj with hj|hj
          ·exact w1 j hj
          ·rw [List.mem_singleton] at hj;omega
        · show au_ A (spAt A i) w.p=b4_ A (a2_ A (w.l++ [i])) p
          unfold a2_
          rw [List.map_append,w2]
          exact (fe_ A _ _ _).symm
        · show au_ A (spAt A i) w.q=b4_ A (a2_ A (w.l++ [i])) q
          unfold a2_
          rw [List.map_append,w3]
          exact (fe_ A _ _ _).symm
    · rw [List.map_append,List.nodup_append]
      refine⟨h.nd,by simp,fun a ha b hb e=>?_⟩
      rw [List.map_singleton,List.mem_singleton] at hb
      rw [e,hb] at ha
      exact hc2 ha
    · rcases List.mem_append.1 hv with hv|hv
      · rcases h.par v hv with e| ⟨j,u,x,h1,h2,h3⟩
        ·exact .inl e
        ·exact .inr ⟨j,u,x,le_ h1,h2,by omega⟩
      · rw [List.mem_singleton] at hv;subst hv
        exact .inr ⟨k,w,i,le_ hw,rfl,.inr ⟨rfl,by omega⟩⟩
    · rw [List.pairwise_append]
      refine⟨h.srt,by simp,fun u hu v hv=>?_⟩
      rw [List.mem_singleton] at hv;subst hv
      show slt u.l (w.l++ [i])
      rcases h.par u hu with e| ⟨j,u',x,h1,h2,h3⟩
      · refine .inl ?_
        rw [e,List.length_append];simp
      · rw [h2]
        rcases h3 with h3| ⟨rfl,h3⟩
        · refine lj_ ?_
          have hsrt:=h.srt
          rw [List.pairwise_iff_getElem] at hsrt
          have:=hsrt j k (by omega) hkl h3
          rw [(List.getElem?_eq_some_iff.1 h1).2,(List.getElem?_eq_some_iff.1 hw).2] at this
          exact this
        · rw [hw] at h1
          obtain rfl:=Option.some.inj h1
          exact pr_ h3
    · rcases r5_ hj with hj'| ⟨rfl,rfl⟩
      · clear hj
        by_cases hold:j<k∨(j=k∧x<i)
        · rcases h.cl j u x hj' hx hold with e| ⟨v,hv,e⟩
          ·exact .inl e
          ·exact .inr ⟨v,List.mem_append_left _ hv,e⟩
        · obtain⟨rfl,rfl⟩:j=k∧x=i:=by omega
          rw [hw] at hj'
          obtain rfl:=Option.some.inj hj'
          exact .inr ⟨_,List.mem_append_right _ (List.mem_singleton.2 rfl),rfl,.inl rfl⟩
      ·omega
    · rcases r5_ hj with hj| ⟨rfl,rfl⟩
      ·exact h.eq j u hj hlt
      ·omega
theorem BInv.next {k:Nat} {W:List Way} {w:Way} (h:BInv A p q k (ag_ A).length W) (hw:W[k]?=some w) (he:finI A w.p=finI A w.q):BInv A p q (k+1) 0 W:=by
 refine⟨h.st,h.run,h.nd,fun v hv=>?_,h.srt,fun j u x hj hx hlt=>?_,fun j u hj hlt=>?_⟩
 ·rcases h.par v hv with e| ⟨j,u,x,h1,h2,h3⟩
  ·exact .inl e
  ·exact .inr ⟨j,u,x,h1,h2,by omega⟩
 ·exact h.cl j u x hj hx (by omega)
 ·by_cases hk:j<k
  ·exact h.eq j u hj hk
  ·obtain rfl:j=k:=by omega
   rw [hw] at hj
   obtain rfl:=Option.some.inj hj
   exact he
theorem BInv.cover (hok:AuOk A) {k:Nat} {W:List Way} (h:BInv A p q k 0 W) (hp:InA A p) (hq:InA A q):∀ (n:Nat) (u r:List Nat),u.length=n→(∀ i∈u++r,i<(ag_ A).length)→finI A (b4_ A (a2_ A (u++r)) p)≠finI A (b4_ A (a2_ A (u++r)) q)→(∀ v∈W,v.l.length<n→ ∃ j,j<k∧W[j]?=some v)→ ∃ v∈W,v.pr=(b4_ A (a2_ A u) p,b4_ A (a2_ A u) q)∧sle v.l u:=by
 intro n
 induction n with
 |zero=>
  intro u r hu _ _ _
  obtain rfl:=List.eq_nil_of_length_eq_zero hu
  exact⟨_,List.mem_of_getElem? h.st,rfl,.inl rfl⟩
 |succ n ih=>
  intro u r hu hr hd hpop
  obtain⟨u',x,rfl⟩:∃ u' x,u=u'++ [x]:=by
   rcases List.eq_nil_or_concat u with e| ⟨u',x,e⟩
   ·rw [e] at hu;cases hu
   ·exact⟨u',x,by rw [e,List.concat_eq_append]⟩
  have hu':u'.length=n:=by rw [List.length_append,List.length_singleton] at hu;omega
  have hxl:x<(ag_ A).length:=hr x (by simp)
  obtain⟨v,hv,e,hle⟩:=ih u' ([x]++r) hu' (fun i hi=>hr i (by simpa using hi)) (by rw [← List.append_assoc];exact hd) (fun v hv hl=>hpop v hv (by omega))
  have hvl:v.l.length<n+1:=by
   rcases hle with hle|hle|hle
   ·rw [hle];omega
   ·omega
   ·omega
  obtain⟨j,hj,hjv⟩:=hpop v hv hvl
  have hstep:(b4_ A (a2_ A (u'++ [x])) p,b4_ A (a2_ A (u'++ [x])) q)=(av_ A v x).pr:=by
   have e1:v.p=b4_ A (a2_ A u') p:=congrArg Prod.fst e
   have e2:v.q=b4_ A (a2_ A u') q:=congrArg Prod.snd e
   unfold a2_
   rw [List.map_append,List.map_singleton,fe_,fe_]
   unfold av_ Way.pr
   rw [e1,e2];rfl
  rcases h.cl j v x hjv hxl (.inl hj) with hdg| ⟨v',hv',e',hle'⟩
  ·exfalso
   refine hd ?_
   have e1:b4_ A (a2_ A (u'++ [x])) p=(av_ A v x).p:=congrArg Prod.fst hstep
   have e2:b4_ A (a2_ A (u'++ [x])) q=(av_ A v x).q:=congrArg Prod.snd hstep
   have hsplit:a2_ A (u'++ [x]++r)=a2_ A (u'++ [x])++a2_ A r:=by unfold a2_;rw [List.map_append]
   rw [hsplit,lv_,lv_,e1,e2,hdg]
  ·exact⟨v',hv',by rw [hstep];exact e',si_ hle' (vz_ hle)⟩
theorem BInv.found (hok:AuOk A) {k:Nat} {W:List Way} {w:Way} (h:BInv A p q k 0 W) (hp:InA A p) (hq:InA A q) (hw:W[k]?=some w) (hd:finI A w.p≠finI A w.q):jc_ A w.l p q∧ ∀ g,jc_ A g p q→sle w.l g:=by
 obtain⟨w1,w2,w3,w4,w5⟩:=h.run w (List.mem_of_getElem? hw)
 refine⟨⟨w1,by rw [← w2,← w3];exact hd⟩,fun g hg=>?_⟩
 rcases sb_ w.l g with hl|hl|hl
 ·exact .inr hl
 ·exact .inl hl
 ·exfalso
  have hkl:=(List.getElem?_eq_some_iff.1 hw).1
  have   hbefore:∀ v∈W,slt v.l w.l→ ∃ j,j<k∧W[j]?=some v:=fun v hv hlt=>by
   obtain⟨j,hj⟩:=List.getElem?_of_mem hv
   refine⟨j,?_,hj⟩
   refine Classical.byContradiction fun hn=>?_
   have hjl:=(List.getElem?_eq_some_iff.1 hj).1
   rcases Nat.lt_or_ge k j with hkj|hkj
   ·    have hsrt:=h.srt
        rw [List.pairwise_iff_getElem] at hsrt
        have:=hsrt k j hkl hjl hkj
        rw [(List.getElem?_eq_some_iff.1 hj).2,(List.getElem?_eq_some_iff.1 hw).2] at this
        exact n5_ _ (gk_ hlt this)
   ·    obtain rfl:j=k:=by omega
        rw [hw] at hj
        obtain rfl:=Option.some.inj hj
        exact n5_ _ hlt
  have hgl:g.length≤w.l.length:=by
   rcases hl with hl| ⟨hl,_⟩
   ·omega
   ·omega
  obtain⟨v,hv,e,hle⟩:=h.cover hok hp hq g.length g [] rfl (by rw [List.append_nil];exact hg.1) (by rw [List.append_nil];exact hg.2) (fun v hv hlt=>hbefore v hv (.inl (by omega)))
  have hvw:slt v.l w.l:=by
   rcases hle with hle|hle
   ·rw [hle];exact hl
   ·exact gk_ hle hl
  obtain⟨j,hj,hjv⟩:=hbefore v hv hvw
  have:=h.eq j v hjv hj
  have e1:v.p=b4_ A (a2_ A g) p:=congrArg Prod.fst e
  have e2:v.q=b4_ A (a2_ A g) q:=congrArg Prod.snd e
  rw [e1,e2] at this
  exact hg.2 this
theorem BInv.none (hok:AuOk A) {W:List Way} (h:BInv A p q W.length 0 W) (hp:InA A p) (hq:InA A q):Eqv A p q:=fun d hd=>by
 obtain⟨g,hg1,hg⟩:=xd_ hd
 have hpop:∀ v∈W,∃ j,j<W.length∧W[j]?=some v:=fun v hv=>by
  obtain⟨j,hj⟩:=List.getElem?_of_mem hv
  exact⟨j,(List.getElem?_eq_some_iff.1 hj).1,hj⟩
 obtain⟨v,hv,e,hle⟩:=h.cover hok hp hq g.length g [] rfl (by rw [List.append_nil];exact hg.1) (by rw [List.append_nil];exact hg.2) (fun v hv _=>hpop v hv)
 obtain⟨j,hj,hjv⟩:=hpop v hv
 have:=h.eq j v hjv hj
 have e1:v.p=b4_ A (a2_ A g) p:=congrArg Prod.fst e
 have e2:v.q=b4_ A (a2_ A g) q:=congrArg Prod.snd e
 rw [e1,e2] at this
 exact hg.2 this
theorem tb_ {n:Nat} {l:List (Int × Int)} (hnd:l.Nodup) (h:∀ x∈l,(0≤x.1∧x.1<(n:Int))∧(0≤x.2∧x.2<(n:Int))):l.length≤n*n:=by
 have h1:=dj_ (n*n) (l.map fun x=>x.1*(n:Int)+x.2) ?_ fun s hs=>?_
 ·rwa [List.length_map] at h1
 ·rw [List.nodup_iff_pairwise_ne,List.pairwise_map]
  rw [List.nodup_iff_pairwise_ne] at hnd
  refine List.Pairwise.imp_of_mem ?_ hnd
  intro a b ha hb hne e
  refine hne ?_
  obtain⟨a1,a2⟩:=h a ha
  obtain⟨b1,b2⟩:=h b hb
  have d1:=i1_ (a:=a.1) a2
  have d2:=i1_ (a:=b.1) b2
  rw [e] at d1
  exact Prod.ext (d1.1.symm.trans d2.1) (d1.2.symm.trans d2.2)
 ·obtain⟨x,hx,rfl⟩:=List.mem_map.1 hs
  obtain⟨⟨h1,h2⟩,h3,h4⟩:=h x hx
  obtain⟨a,ha⟩:=Int.eq_ofNat_of_zero_le h1
  obtain⟨b,hb⟩:=Int.eq_ofNat_of_zero_le h3
  rw [ha,hb]
  have ha':a<n:=by omega
  have:(a+1)*n≤n*n:=Nat.mul_le_mul_right _ ha'
  rw [Nat.add_mul,Nat.one_mul] at this
  rw [← Int.natCast_mul]
  omega
theorem BInv.few {k i:Nat} {W:List Way} (h:BInv A p q k i W):W.length≤A.f.length*A.f.length:=by
 have:=tb_ (n:=A.f.length) h.nd fun x hx=>by
  obtain⟨w,hw,rfl⟩:=List.mem_map.1 hx
  exact⟨(h.run w hw).2.2.2.1,(h.run w hw).2.2.2.2⟩
 rwa [List.length_map] at this
end
end Go.Mn
namespace Go.Mn
open Go Go.Rt
def lr_ (A:Au) (d:Nat) (p q:Int):Nat:=((List.range (ag_ A).length).find? fun (i:Nat)=>decide (farA A (au_ A (spAt A i) p) (au_ A (spAt A i) q)=(d:Int))).getD 0
def i3_ (A:Au):Nat→Int→Int→List Nat
 |0,_,_=> []
 |d+1,p,q=>lr_ A d p q::i3_ A d (au_ A (spAt A (lr_ A d p q)) p) (au_ A (spAt A (lr_ A d p q)) q)
theorem mu_ {u v:List Nat} (h:sle u v) (k:sle v u):u=v:=by
 rcases h with h|h
 ·exact h
 ·rcases k with k|k
  ·exact k.symm
  ·exact absurd (gk_ h k) (n5_ u)
theorem s0_ {A:Au} {d:Nat} {p q:Int} (hd:d+1≤A.f.length) (h:MinD A (d+1) p q):lr_ A d p q<(ag_ A).length∧MinD A d (au_ A (spAt A (lr_ A d p q)) p) (au_ A (spAt A (lr_ A d p q)) q)∧ ∀ j,j<lr_ A d p q→ ¬ MinD A d (au_ A (spAt A j) p) (au_ A (spAt A j) q):=by
 have hE:Eqk A d p q:=fun e he=>h.2 e (by omega)
 obtain⟨s,hs,hm⟩:=(lw_ hE).1 h
 obtain⟨i,hi⟩:=List.getElem?_of_mem hs
 have hil:=(List.getElem?_eq_some_iff.1 hi).1
 have hsp:spAt A i=s:=by unfold spAt;rw [List.getD_eq_getElem?_getD,hi];rfl
 obtain⟨m,h1,h2,h3,h4⟩:=g4_ (f:=fun (i:Nat)=>decide (farA A (au_ A (spAt A i) p) (au_ A (spAt A i) q)=(d:Int))) hil (decide_eq_true (by rw [hsp];exact on_.2 ⟨by omega,hm⟩))
 unfold lr_
 rw [h1,Option.getD_some]
 refine⟨by omega,(on_.1 (of_decide_eq_true h3)).2,fun j hj hj2=>?_⟩
 have h5:=h4 j hj
 have h6:farA A (au_ A (spAt A j) p) (au_ A (spAt A j) q)=(d:Int):=on_.2 ⟨by omega,hj2⟩
 rw [decide_eq_true h6] at h5
 cases h5
theorem ie_ {A :Au}:∀ (d:Nat) (p q:Int),d≤A.f.length→MinD A d p q→jc_ A (i3_ A d p q) p q∧(i3_ A d p q).length=d∧ ∀ g,jc_ A g p q→sle (i3_ A d p q) g
  | 0,p,q,_,h=>by
    rw [i3_]
    refine⟨⟨fun i hi=>(by cases hi),ca_.1 h.1⟩,rfl,fun g hg=>?_⟩
    cases g with
    |nil=>exact .inl rfl
    |cons x g=>exact .inr (.inl (by simp))
  | d + 1, p, q,hd,h=>by
    obtain⟨h1,h2,h3⟩:=s0_ hd h
    obtain⟨⟨i1,i2⟩,i3,i4⟩:=ie_ d _ _ (by omega) h2
    rw [i3_]
    refine⟨⟨fun i hi=>?_,i2⟩,by rw [List.length_cons,i3],fun g hg=>?_⟩
    · rcases List.mem_cons.1 hi with rfl|hi
      ·exact h1
      ·exact i1 i hi
    · have hgl :¬ g.length<d+1:=fun hl=>h.2 _ hl (hj_ hg)
      by_cases hl:g.length=d+1
      · cases g with
        |nil=>cases hl
        | cons j g=>
          have hg':jc_ A g (au_ A (spAt A j) p) (au_ A (spAt A j) q):=⟨fun i hi=>hg.1 i (List.mem_cons_of_mem _ hi),hg.2⟩
          have hj:=hg.1 j (by simp)
          have hgd:g.length=d:=by simpa using hl
          have hmin:MinD A d (au_ A (spAt A j) p) (au_ A (spAt A j) q):=by
            refine⟨by rw [← hgd];exact hj_ hg',fun e he hde=>h.2 (e+1) (by omega) (c4_.2 ⟨_,gs_ hj,hde⟩)⟩
          rcases Nat.lt_trichotomy (lr_ A d p q) j with hlt|heq|hgt
          ·exact .inr (.inr ⟨by rw [List.length_cons,List.length_cons,i3,hgd],.inl hlt⟩)
          · rw [heq] at i4 i3 ⊢
            rcases i4 g hg' with e|e
            ·exact .inl (by rw [e])
            · rcases e with e| ⟨e1,e2⟩
              ·omega
              ·exact .inr (.inr ⟨by rw [List.length_cons,List.length_cons,e1],.inr ⟨rfl,e2⟩⟩)
          ·exact absurd hmin (h3 j hgt)
      ·exact .inr (.inl (by rw [List.length_cons,i3];omega))
end Go.Mn
