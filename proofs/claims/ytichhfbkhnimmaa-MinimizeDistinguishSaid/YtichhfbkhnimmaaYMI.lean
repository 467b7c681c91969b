/- Automata, plainly: quotients. No condition. -/
import Derived.Test.YtichhfbkhnimmaaYME
set_option linter.unusedSimpArgs false
set_option linter.unusedVariables false
set_option maxHeartbeats 400000
namespace Go.Mn
open Go Go.Rt
theorem rank_nat {A:Au} (hok:AuOk A) {i:Nat} {k:Int} (h:A.ranks[i]?=some k):∃ m:Nat,k=(m:Int)∧m≤2:=by
 have:=hok.alpha.rng k (List.mem_of_getElem? h)
 exact⟨k.toNat,by omega,by omega⟩
mutual
theorem tree_found {A:Au} (hok:AuOk A):∀ t:Tr,nodesE A.ranks t=0→stateT A t∈foundA A
 | .node s l,h=>by
   obtain⟨h1,h2,h3,h4⟩:=nodes_good h
   obtain⟨i,rfl⟩:=Int.eq_ofNat_of_zero_le h1
   have hi:i<A.ranks.length:=by omega
   rw [stateT_node]
   refine found_shut hok (k:=l.length) ?_ (by rw [stateL_map,List.length_map]) (treeL_found hok l h4)
   rw [List.getElem?_eq_getElem hi,h3,Int.toNat_natCast,List.getD_eq_getElem?_getD,List.getElem?_eq_getElem hi];rfl
theorem treeL_found {A:Au} (hok:AuOk A):∀ l:List Tr,nodesL A.ranks l=0→ ∀ x∈stateL A l,x∈foundA A
 | [],_,x,hx=>by rw [stateL] at hx;cases hx
 |t::ts,h,x,hx=>by
  obtain⟨h1,h2⟩:=nodesL_good h
  rw [stateL] at hx
  rcases List.mem_cons.1 hx with rfl|hx
  ·exact tree_found hok t h1
  ·exact treeL_found hok ts h2 x hx
end
def ByTree (A:Au) (x:Int):Prop:= ∃ t,nodesE A.ranks t=0∧stateT A t=x
theorem trees_of {A:Au}:∀ {ds:List Int},(∀ d∈ds,ByTree A d)→ ∃ l:List Tr,nodesL A.ranks l=0∧stateL A l=ds
 | [],_=>⟨[],by rw [nodesL],by rw [stateL]⟩
 |d::ds,h=>by
  obtain⟨t,h1,h2⟩:=h d (by simp)
  obtain⟨l,h3,h4⟩:=trees_of fun x hx=>h x (List.mem_cons_of_mem _ hx)
  exact⟨t::l,by rw [nodesL,if_neg (by omega)];exact h3,by rw [stateL,h2,h4]⟩
theorem byTree_at {A:Au} {i:Nat} {ds:List Int} (hi:A.ranks[i]?=some (ds.length:Int)) (h:∀ d∈ds,ByTree A d):ByTree A (atI A i ds):=by
 obtain⟨l,h1,h2⟩:=trees_of h
 have hlen:l.length=ds.length:=by rw [← h2,stateL_map,List.length_map]
 refine⟨.node i l,?_,by rw [stateT_node,h2]⟩
 have hir:=(List.getElem?_eq_some_iff.1 hi).1
 rw [nodesE,if_neg (by omega),if_neg ?_]
 ·exact h1
 ·rw [Int.toNat_natCast,List.getD_eq_getElem?_getD,hi,hlen];simp
theorem addAll_tree {A:Au} {i:Nat}:∀ {ls:List (List Int)} {out:List Int},(∀ x∈out,ByTree A x)→(∀ l∈ls,ByTree A (atI A i l))→ ∀ x∈addAll A i ls out,ByTree A x
 | [],out,h,_,x,hx=>h x hx
 |l::ls,out,h,hl,x,hx=>by
  refine addAll_tree (ls:=ls) (out:=stepAdd A i out l) (fun y hy=>?_) (fun y hy=>hl y (List.mem_cons_of_mem _ hy)) x hx
  unfold stepAdd at hy
  split at hy
  ·exact h y hy
  ·rcases List.mem_append.1 hy with hy|hy
   ·exact h y hy
   ·rw [List.mem_singleton] at hy;subst hy;exact hl l (by simp)
theorem roundP_tree {A:Au} (hok:AuOk A) {of out:List Int} (h1:∀ x∈of,ByTree A x) (h2:∀ x∈out,ByTree A x):∀ j,j≤A.ranks.length→ ∀ x∈roundP A of out j,ByTree A x
 |0,_,x,hx=>h2 x hx
 |j+1,hj,x,hx=>by
  rw [roundP_succ] at hx
  obtain⟨r1,r2,r3⟩:=rank_at hok (show j<A.ranks.length by omega)
  refine addAll_tree (roundP_tree hok h1 h2 j (by omega)) (fun l hl=>?_) x hx
  obtain⟨ds,d1,d2,d3⟩:=mem_enumL.1 hl
  obtain rfl:l=ds:=d3
  exact byTree_at (by rw [d1];exact r1) fun d hd=>h1 d (d2 d hd)
theorem found_tree {A:Au} (hok:AuOk A) {x:Int} (hx:x∈foundA A):ByTree A x:=by
 have key:∀ k,∀ x∈foundK A k,ByTree A x:=by
  intro k
  induction k with
  |zero=>exact fun x hx=>by cases hx
  |succ k ih=>exact fun x hx=>roundP_tree hok ih ih _ (Nat.le_refl _) x hx
 exact key _ x hx
theorem found_in {A:Au} (hok:AuOk A) {x:Int} (hx:x∈foundA A):InA A x:=(foundK_ok hok (A.final.length+1)).rng x hx
theorem found_nd {A:Au} (hok:AuOk A):(foundA A).Nodup:=(foundK_ok hok (A.final.length+1)).nd
def EqvL (A:Au):List Int→List Int→Prop
 | [],[]=>True
 |x::xs,y::ys=>Eqv A x y∧EqvL A xs ys
 |_,_=>False
theorem EqvL.len {A:Au}:∀ {xs ys:List Int},EqvL A xs ys→xs.length=ys.length
 | [],[],_=>rfl
 |x::xs,y::ys,h=>by rw [List.length_cons,List.length_cons,EqvL.len h.2]
 | [],_::_,h=>h.elim
 |_::_,[],h=>h.elim
theorem EqvL.map {A:Au} {α:Type} {f g:α→Int}:∀ {l:List α},(∀ x∈l,Eqv A (f x) (g x))→EqvL A (l.map f) (l.map g)
 | [],_=>trivial
 |x::xs,h=>⟨h x (by simp),EqvL.map fun y hy=>h y (List.mem_cons_of_mem _ hy)⟩
theorem cong {A:Au} (hok:AuOk A) {i:Nat} {xs ys:List Int} (hi:A.ranks[i]?=some (xs.length:Int)) (hx:∀ x∈xs,x∈foundA A) (hy:∀ y∈ys,y∈foundA A) (h:EqvL A xs ys):Eqv A (atI A i xs) (atI A i ys):=by
 have hir:=(List.getElem?_eq_some_iff.1 hi).1
 have hr:A.ranks.getD i 0=(xs.length:Int):=by rw [List.getD_eq_getElem?_getD,hi];rfl
 have h2:=(hok.alpha.rng _ (List.mem_of_getElem? hi)).2
 match xs,ys,h with
 | [],[],_=>exact Eqv.refl A _
 | [x],[y],h=>
   have hs:(⟨i,0, -1⟩:Sp)∈stepsA A:=mem_steps.2 ⟨i,rfl,hir,.inl ⟨hr,rfl,rfl⟩⟩
   exact h.1.next hs
 | [x,x2],[y,y2],h=>
   have hx2:=hx x2 (by simp)
   have hy1:=hy y (by simp)
   obtain⟨a0,a1⟩:=found_in hok hx2
   obtain⟨b0,b1⟩:=found_in hok hy1
   have hs1:(⟨i,0,x2⟩:Sp)∈stepsA A:=mem_steps.2 ⟨i,rfl,hir,.inr ⟨hr,.inl rfl,a0,a1,hx2⟩⟩
   have hs2:(⟨i,1,y⟩:Sp)∈stepsA A:=mem_steps.2 ⟨i,rfl,hir,.inr ⟨hr,.inr rfl,b0,b1,hy1⟩⟩
   have e1:=h.1.next hs1
   have e2:=h.2.1.next hs2
   have f1:∀ z,nextI A ⟨i,0,x2⟩ z=atI A i [z,x2]:=fun z=>by
    unfold nextI Sp.args
    rw [if_neg (by show ¬ x2<0;omega),if_pos rfl]
   have f2:∀ z,nextI A ⟨i,1,y⟩ z=atI A i [y,z]:=fun z=>by
    unfold nextI Sp.args
    rw [if_neg (by show ¬ y<0;omega),if_neg (by show ¬ (1:Int)=0;decide)]
   rw [f1,f1] at e1
   rw [f2,f2] at e2
   exact e1.trans e2
 |_::_::_::_,_,_=>simp only [List.length_cons] at h2;omega
def clsI (A:Au) (x:Int):Nat:=clsA A x.toNat
theorem clsI_eq {A:Au} (hok:AuOk A) {x y:Int} (hx:InA A x) (hy:InA A y):clsI A x=clsI A y↔Eqv A x y:=by
 obtain⟨x0,x1⟩:=hx
 obtain⟨y0,y1⟩:=hy
 have:=cls_eq hok (p:=x.toNat) (q:=y.toNat) (by omega) (by omega)
 rwa [Int.toNat_of_nonneg x0,Int.toNat_of_nonneg y0] at this
def idxC (A:Au) (reps:List Int) (x:Int):Nat:=(reps.map (clsI A)).idxOf (clsI A x)
def qT (A:Au) (reps:List Int) (i:Int) (ds:List Int):Int:=(idxC A reps (atI A i (ds.map (phi reps))):Nat)
def qF (A:Au) (reps:List Int) (s:Nat):Bool:=finI A (reps.getD s 0)
def quoA (A:Au) (reps:List Int):Au:=madeA A.ranks reps.length (qT A reps) (qF A reps)
structure RepsOk (A:Au) (reps:List Int):Prop where
 found:∀ r∈reps,r∈foundA A
 nd:(reps.map (clsI A)).Nodup
 all:∀ x∈foundA A,clsI A x∈reps.map (clsI A)
section
variable {A:Au} {reps:List Int}
theorem RepsOk.inA (hok:AuOk A) (h:RepsOk A reps):∀ r∈reps,InA A r:=fun r hr=>found_in hok (h.found r hr)
theorem RepsOk.nodup (h:RepsOk A reps):reps.Nodup:=by
 have:=h.nd
 rw [List.nodup_iff_pairwise_ne,List.pairwise_map] at this
 exact this.imp fun hne e=>hne (by rw [e])
theorem RepsOk.len (hok:AuOk A) (h:RepsOk A reps):reps.length≤A.final.length:=pigeon_few _ _ h.nodup fun r hr=>h.inA hok r hr
theorem RepsOk.pos (hk:chk A=0) (h:RepsOk A reps):0<reps.length:=by
 have hok:=chk_ok hk
 obtain⟨i,hi⟩:=List.getElem?_of_mem (chk_zero hk)
 have:=h.all _ (found_shut hok (k:=0) (ds:=[]) hi rfl (by simp))
 refine List.length_pos_iff.2 fun e=>?_
 rw [e] at this;cases this
theorem idxC_lt (h:RepsOk A reps) {x:Int} (hx:x∈foundA A):idxC A reps x<reps.length:=by
 have:=List.idxOf_lt_length_of_mem (h.all x hx)
 rwa [List.length_map] at this
theorem phi_in (h:RepsOk A reps) {d:Int} (hd:0≤d∧d<(reps.length:Int)):phi reps d∈foundA A:=h.found _ (phi_mem hd)
theorem phi_idxC (hok:AuOk A) (h:RepsOk A reps) {x:Int} (hx:x∈foundA A):Eqv A (phi reps (idxC A reps x:Nat)) x:=by
 have hlt:=idxC_lt h hx
 have hm:=h.all x hx
 have e:(reps.map (clsI A))[idxC A reps x]?=some (clsI A x):=by
  unfold idxC
  rw [List.getElem?_eq_getElem (List.idxOf_lt_length_of_mem hm),List.getElem_idxOf]
 rw [List.getElem?_map,List.getElem?_eq_getElem hlt] at e
 have e:clsI A reps[idxC A reps x]=clsI A x:=Option.some.inj e
 have hp:phi reps (idxC A reps x:Nat)=reps[idxC A reps x]:=by
  unfold phi
  rw [Int.toNat_natCast,List.getD_eq_getElem?_getD,List.getElem?_eq_getElem hlt];rfl
 rw [hp]
 exact (clsI_eq hok (h.inA hok _ (List.getElem_mem hlt)) (found_in hok hx)).1 e
theorem idxC_congr (hok:AuOk A) {x y:Int} (hx:InA A x) (hy:InA A y) (e:Eqv A x y):idxC A reps x=idxC A reps y:=by
 unfold idxC
 rw [(clsI_eq hok hx hy).2 e]
theorem idxC_phi (hok:AuOk A) (h:RepsOk A reps) {d:Int} (hd:0≤d∧d<(reps.length:Int)):((idxC A reps (phi reps d):Nat):Int)=d:=by
 obtain⟨m,rfl⟩:=Int.eq_ofNat_of_zero_le hd.1
 have hm:m<reps.length:=by omega
 unfold idxC phi
 rw [Int.toNat_natCast,List.getD_eq_getElem?_getD,List.getElem?_eq_getElem hm]
 have:(reps.map (clsI A))[m]?=some (clsI A reps[m]):=by rw [List.getElem?_map,List.getElem?_eq_getElem hm];rfl
 have hlt:=(List.getElem?_eq_some_iff.1 this).1
 have:=(List.getElem?_eq_some_iff.1 this).2
 rw [Option.getD_some,← this,List.Nodup.idxOf_getElem h.nd]
theorem quo_len:(quoA A reps).final.length=reps.length:=made_final_len ..
theorem quo_fits (hk:chk A=0) (h:RepsOk A reps) {i k:Nat} {ds:List Int} (hi:A.ranks[i]?=some (k:Int)) (hl:ds.length=k) (hd:∀ d∈ds,0≤d∧d<(reps.length:Int)):atI A i (ds.map (phi reps))∈foundA A:=
 found_shut (chk_ok hk) hi (by rw [List.length_map];exact hl) fun x hx=>by
  obtain⟨d,hd',rfl⟩:=List.mem_map.1 hx
  exact phi_in h (hd d hd')
theorem quo_ok (hk:chk A=0) (h:RepsOk A reps):AuOk (quoA A reps):=by
 have hok:=chk_ok hk
 refine made_ok (chk_alphaE hk) (h.pos hk) (by have:=h.len hok;have:=hok.hi;omega) fun i k p hi hp=>?_
 have:=idxC_lt h (quo_fits hk h hi (digs_len _ _ _) (digs_rng (h.pos hk) k p))
 unfold qT
 omega
theorem quo_chk (hk:chk A=0) (h:RepsOk A reps):chk (quoA A reps)=0:=chk_of (show alphaE A.ranks=0 from chk_alphaE hk) (quo_ok hk h)
theorem quo_at (hk:chk A=0) (h:RepsOk A reps) {s:Int} {ds:List Int} (hf:Fits (quoA A reps) s ds):atI (quoA A reps) s ds=(idxC A reps (atI A s (ds.map (phi reps))):Nat)∧atI A s (ds.map (phi reps))∈foundA A:=by
 obtain⟨i,rfl,hi⟩:=fits_rank (quo_ok hk h) hf
 exact⟨at_made (h.pos hk) hf,quo_fits hk h hi rfl fun d hd=>by have:=hf.rng d hd;rw [quo_len] at this;exact this⟩
mutual
theorem state_quo (hk:chk A=0) (h:RepsOk A reps):∀ t:Tr,nodesE A.ranks t=0→stateT (quoA A reps) t=(idxC A reps (stateT A t):Nat)
 | .node s l,hn=>by
   have hok:=chk_ok hk
   have hf:Fits (quoA A reps) s (stateL (quoA A reps) l):=state_fits (quo_ok hk h) hn
   obtain⟨h1,h2,h3,h4⟩:=nodes_good hn
   obtain⟨q1,q2⟩:=quo_at hk h hf
   obtain⟨i,rfl,hi⟩:=fits_rank (quo_ok hk h) hf
   have hi:A.ranks[i]?=some ((stateL (quoA A reps) l).length:Int):=hi
   have ht:=tree_found hok _ hn
   rw [stateT_node] at ht
   rw [stateT_node,stateT_node,q1,idxC_congr hok (found_in hok q2) (found_in hok ht)]
   have hl:=stateL_quo hk h l h4
   refine cong hok (by rw [List.length_map];exact hi) (fun x hx=>?_) (treeL_found hok l h4) hl
   obtain⟨d,hd,rfl⟩:=List.mem_map.1 hx
   refine phi_in h ?_
   have:=hf.rng d hd
   rwa [quo_len] at this
theorem stateL_quo (hk:chk A=0) (h:RepsOk A reps):∀ l:List Tr,nodesL A.ranks l=0→EqvL A ((stateL (quoA A reps) l).map (phi reps)) (stateL A l)
 | [],_=>by rw [stateL,stateL];trivial
 |t::ts,hn=>by
  obtain⟨h1,h2⟩:=nodesL_good hn
  rw [stateL,stateL,state_quo hk h t h1]
  exact⟨phi_idxC (chk_ok hk) h (tree_found (chk_ok hk) t h1),stateL_quo hk h ts h2⟩
end
theorem quo_found (hk:chk A=0) (h:RepsOk A reps) {d:Int} (hd:0≤d∧d<(reps.length:Int)):d∈foundA (quoA A reps):=by
 obtain⟨t,h1,h2⟩:=found_tree (chk_ok hk) (phi_in h hd)
 have:=tree_found (quo_ok hk h) t h1
 rw [state_quo hk h t h1,h2,idxC_phi (chk_ok hk) h hd] at this
 exact this
end
end Go.Mn
namespace Go.Mn
open Go Go.Rt
section
variable {A:Au} {reps reps':List Int}
def trimA (A:Au):Au:=keptA A (foundA A)
end
def repsA (A:Au):List Int:=((List.range A.final.length).filter fun (s:Nat)=>decide ((s:Int)∈foundA A) && (List.range s).all fun (r:Nat)=>!decide ((r:Int)∈foundA A) || !decide (clsA A r=clsA A s)).map fun (s:Nat)=>(s:Int)
theorem mem_repsA {A:Au} {x:Int}:x∈repsA A↔ ∃ s:Nat,x=s∧s<A.final.length∧(s:Int)∈foundA A∧ ∀ r:Nat,r<s→(r:Int)∈foundA A→clsA A r≠clsA A s:=by
 unfold repsA
 rw [List.mem_map]
 constructor
 ·rintro⟨s,hs,rfl⟩
  rw [List.mem_filter,List.mem_range,Bool.and_eq_true,decide_eq_true_iff,List.all_eq_true] at hs
  refine⟨s,rfl,hs.1,hs.2.1,fun r hr hf e=>?_⟩
  have:=hs.2.2 r (List.mem_range.2 hr)
  rw [decide_eq_true hf,decide_eq_true e] at this
  cases this
 ·rintro⟨s,rfl,h1,h2,h3⟩
  refine⟨s,?_,rfl⟩
  rw [List.mem_filter,List.mem_range,Bool.and_eq_true,decide_eq_true_iff,List.all_eq_true]
  refine⟨h1,h2,fun r hr=>?_⟩
  rw [List.mem_range] at hr
  by_cases hf:(r:Int)∈foundA A
  ·rw [decide_eq_true hf,decide_eq_false (h3 r hr hf)];rfl
  ·rw [decide_eq_false hf];rfl
theorem repsA_ok {A:Au} (hok:AuOk A):RepsOk A (repsA A):=by
  refine⟨fun r hr=>?_,?_,fun x hx=>?_⟩
  · obtain⟨s,rfl,_,h2,_⟩:=mem_repsA.1 hr
    exact h2
  · rw [List.nodup_iff_pairwise_ne,List.pairwise_map]
    have hlt:(repsA A).Pairwise fun a b=>a<b:=by
      unfold repsA
      rw [List.pairwise_map]
      refine List.Pairwise.filter _ ?_
      exact List.pairwise_lt_range.imp fun h=>by omega
    refine List.Pairwise.imp_of_mem ?_ hlt
    intro a b ha hb hab e
    obtain⟨s,rfl,h1,h2,h3⟩:=mem_repsA.1 ha
    obtain⟨r,rfl,g1,g2,g3⟩:=mem_repsA.1 hb
    refine g3 s (by omega) h2 ?_
    exact e
  · obtain ⟨x0,x1⟩:=found_in hok hx
    obtain⟨m,rfl⟩:=Int.eq_ofNat_of_zero_le x0
    have key:∀ m:Nat,m<A.final.length→(m:Int)∈foundA A→ ∃ r∈repsA A,clsI A r=clsA A m:=by
      intro m
      induction m using Nat.strongRecOn with
      | _ m ih=>
        intro hm hf
        by_cases hr:∀ r:Nat,r<m→(r:Int)∈foundA A→clsA A r≠clsA A m
        ·exact⟨m,mem_repsA.2 ⟨m,rfl,hm,hf,hr⟩,rfl⟩
        · obtain⟨r,h1⟩:=Classical.not_forall.1 hr
          obtain⟨h1,h2⟩:=Classical.not_imp.1 h1
          obtain⟨h2,h3⟩:=Classical.not_imp.1 h2
          have h3:=Classical.not_not.1 h3
          obtain⟨q,q1,q2⟩:=ih r h1 (by omega) h2
          exact⟨q,q1,q2.trans h3⟩
    obtain⟨r,h1,h2⟩:=key m (by omega) hx
    exact List.mem_map.2 ⟨r,h1,h2⟩
def leastA (A:Au):Au:=trimA (quoA A (repsA A))
def leastTo (A:Au) (p:Nat):Int:=if (p:Int)∈foundA A then hasI (foundA (quoA A (repsA A))) (idxC A (repsA A) (p:Int):Nat) else -1
theorem trim_chk {A:Au} (hk:chk A=0):chk (trimA A)=0:=kept_chk hk (found_shutL (chk_ok hk) (chk_zero hk))
theorem least_chk {A:Au} (hk:chk A=0):chk (leastA A)=0:=trim_chk (quo_chk hk (repsA_ok (chk_ok hk)))
def SameL (A B:Au):Prop:= ∀ t:Tr,nodesE A.ranks t=0→finI A (stateT A t)=finI B (stateT B t)
theorem SameL.symm {A B:Au} (hr:A.ranks=B.ranks) (h:SameL A B):SameL B A:=fun t ht=>(h t (by rw [hr];exact ht)).symm
end Go.Mn
namespace Go.Mn
open Go Go.Rt
theorem SameL.trans {A B C:Au} (hr:A.ranks=B.ranks) (h:SameL A B) (k:SameL B C):SameL A C:=fun t ht=>(h t ht).trans (k t (by rw [← hr];exact ht))
theorem fin_not {A:Au} {x:Int} (h:InA A x):finI (notA A) x=!finI A x:=by
 obtain⟨x0,x1⟩:=h
 obtain⟨m,rfl⟩:=Int.eq_ofNat_of_zero_le x0
 have hm:m<A.final.length:=by omega
 unfold finI notA
 rw [Int.toNat_natCast]
 show (A.final.map (!·)).getD m false=_
 rw [List.getD_eq_getElem?_getD,List.getD_eq_getElem?_getD,List.getElem?_map,List.getElem?_eq_getElem hm];rfl
theorem not_ranks (A:Au):(notA A).ranks=A.ranks:=rfl
theorem addAll_not (A:Au) (s:Int) (ls:List (List Int)):∀ out,addAll (notA A) s ls out=addAll A s ls out:=by
 induction ls with
 |nil=>exact fun out=>rfl
 |cons l ls ih=>
  intro out
  show addAll (notA A) s ls (stepAdd (notA A) s out l)=addAll A s ls (stepAdd A s out l)
  rw [ih]
  unfold stepAdd
  rw [at_not]
theorem round_not (A:Au) (of out:List Int):∀ j,roundP (notA A) of out j=roundP A of out j
 |0=>rfl
 |j+1=>by
  rw [roundP_succ,roundP_succ,round_not A of out j]
  unfold symS
  rw [addAll_not,not_ranks]
theorem found_not (A:Au):foundA (notA A)=foundA A:=by
 have key:∀ k,foundK (notA A) k=foundK A k:=by
  intro k
  induction k with
  |zero=>rfl
  |succ k ih=>
   show roundP (notA A) (foundK (notA A) k) (foundK (notA A) k) (notA A).ranks.length=roundP A (foundK A k) (foundK A k) A.ranks.length
   rw [ih,round_not,not_ranks]
 unfold foundA
 rw [key,show (notA A).final.length=A.final.length by simp [notA]]
theorem dist_not {A:Au} (hok:AuOk A):∀ (d:Nat) (p q:Int),InA A p→InA A q→(Dist (notA A) d p q↔Dist A d p q)
 |0,p,q,hp,hq=>by
  rw [dist_zero,dist_zero,fin_not hp,fin_not hq]
  cases finI A p <;> cases finI A q <;> simp
 |d+1,p,q,hp,hq=>by
  have hst:∀ s:Sp,s∈stepsA (notA A)↔s∈stepsA A:=fun s=>by
   unfold stepsA stepsS
   rw [found_not,not_ranks,show (notA A).final.length=A.final.length by simp [notA]]
  have hnx:∀ (s:Sp) (x:Int),nextI (notA A) s x=nextI A s x:=fun s x=>at_not A _ _
  rw [dist_succ,dist_succ]
  constructor
  ·rintro⟨s,hs,h⟩
   have hs:=(hst s).1 hs
   rw [hnx,hnx] at h
   exact⟨s,hs,(dist_not hok d _ _ (next_in hok (mem_steps.1 hs) hp) (next_in hok (mem_steps.1 hs) hq)).1 h⟩
  ·rintro⟨s,hs,h⟩
   refine⟨s,(hst s).2 hs,?_⟩
   rw [hnx,hnx]
   exact (dist_not hok d _ _ (next_in hok (mem_steps.1 hs) hp) (next_in hok (mem_steps.1 hs) hq)).2 h
end Go.Mn
namespace Go.Mn
open Go Go.Rt
def lexL:List Nat→List Nat→Prop
 |a::ra,b::bs=>a<b∨(a=b∧lexL ra bs)
 |_,_=>False
def slt (u v:List Nat):Prop:=u.length<v.length∨(u.length=v.length∧lexL u v)
def sle (u v:List Nat):Prop:=u=v∨slt u v
theorem lexL_irr:∀ u:List Nat,¬ lexL u u
 | [],h=>h
 |a::ra,h=>by
  rcases h with h| ⟨_,h⟩
  ·omega
  ·exact lexL_irr ra h
theorem lexL_trans:∀ {u v w:List Nat},lexL u v→lexL v w→lexL u w
 |a::ra,b::bs,c::cs,h,k=>by
  rcases h with h| ⟨rfl,h⟩
  ·rcases k with k| ⟨rfl,k⟩
   ·exact .inl (by omega)
   ·exact .inl h
  ·rcases k with k| ⟨rfl,k⟩
   ·exact .inl k
   ·exact .inr ⟨rfl,lexL_trans h k⟩
theorem lexL_total:∀ {u v:List Nat},u.length=v.length→lexL u v∨u=v∨lexL v u
 | [],[],_=> .inr (.inl rfl)
 |a::ra,b::bs,h=>by
  rcases Nat.lt_trichotomy a b with hl|rfl|hl
  ·exact .inl (.inl hl)
  ·rcases lexL_total (u:=ra) (v:=bs) (by simpa using h) with h|h|h
   ·exact .inl (.inr ⟨rfl,h⟩)
   ·exact .inr (.inl (by rw [h]))
   ·exact .inr (.inr (.inr ⟨rfl,h⟩))
  ·exact .inr (.inr (.inl hl))
 | [],_::_,h=>by cases h
 |_::_,[],h=>by cases h
theorem lexL_snoc:∀ {u v:List Nat} {x y:Nat},u.length=v.length→(lexL (u++ [x]) (v++ [y])↔lexL u v∨(u=v∧x<y))
 | [],[],x,y,_=>⟨fun h=>h.elim (fun h=> .inr ⟨rfl,h⟩) (fun h=>h.2.elim),fun h=>h.elim (fun h=>h.elim) (fun h=> .inl h.2)⟩
 |a::    ra,b::bs,x,y,hlen=>by
  have ih:=lexL_snoc (u:=ra) (v:=bs) (x:=x) (y:=y) (by simpa using hlen)
  clear hlen
  constructor
  ·rintro (h| ⟨rfl,h⟩)
   ·exact .inl (.inl h)
   ·    rcases ih.1 h with h2| ⟨e,h2⟩
        ·exact .inl (.inr ⟨rfl,h2⟩)
        ·exact .inr ⟨by rw [e],h2⟩
  ·rintro ((h| ⟨rfl,h⟩)| ⟨h,h2⟩)
   ·exact .inl h
   ·exact .inr ⟨rfl,ih.2 (.inl h)⟩
   ·    obtain⟨rfl,rfl⟩:=List.cons.inj h
        exact .inr ⟨rfl,ih.2 (.inr ⟨rfl,h2⟩)⟩
 | [],_::_,_,_,h=>by cases h
 |_::_,[],_,_,h=>by cases h
theorem slt_irr (u:List Nat):¬ slt u u:=fun h=>h.elim (fun h=>by omega) (fun h=>lexL_irr u h.2)
theorem slt_trans {u v w:List Nat} (h:slt u v) (k:slt v w):slt u w:=by
 rcases h with h| ⟨h,h2⟩
 ·rcases k with k| ⟨k,_⟩
  ·exact .inl (by omega)
  ·exact .inl (by omega)
 ·rcases k with k| ⟨k,k2⟩
  ·exact .inl (by omega)
  ·exact .inr ⟨by omega,lexL_trans h2 k2⟩
theorem sle_trans {u v w:List Nat} (h:sle u v) (k:sle v w):sle u w:=by
 rcases h with rfl|h
 ·exact k
 ·rcases k with rfl|k
  ·exact .inr h
  ·exact .inr (slt_trans h k)
theorem slt_total (u v:List Nat):slt u v∨u=v∨slt v u:=by
 rcases Nat.lt_trichotomy u.length v.length with h|h|h
 ·exact .inl (.inl h)
 ·rcases lexL_total h with h2|h2|h2
  ·exact .inl (.inr ⟨h,h2⟩)
  ·exact .inr (.inl h2)
  ·exact .inr (.inr (.inr ⟨h.symm,h2⟩))
 ·exact .inr (.inr (.inl h))
theorem slt_snoc {u v:List Nat} {x y:Nat} (h:slt u v):slt (u++ [x]) (v++ [y]):=by
 rcases h with h| ⟨h,h2⟩
 ·exact .inl (by simp only [List.length_append,List.length_singleton];omega)
 ·exact .inr ⟨by simp only [List.length_append,List.length_singleton];omega,(lexL_snoc h).2 (.inl h2)⟩
theorem slt_last {u:List Nat} {x y:Nat} (h:x<y):slt (u++ [x]) (u++ [y]):= .inr ⟨by simp,(lexL_snoc rfl).2 (.inr ⟨rfl,h⟩)⟩
theorem sle_snoc {u v:List Nat} {x:Nat} (h:sle u v):sle (u++ [x]) (v++ [x]):=by
 rcases h with rfl|h
 ·exact .inl rfl
 ·exact .inr (slt_snoc h)
def spAt (A:Au) (i:Nat):Sp:=(stepsA A).getD i ⟨0,0,0⟩
def wordS (A:Au) (l:List Nat):List Sp:=l.map (spAt A)
theorem spAt_mem {A:Au} {i:Nat} (h:i<(stepsA A).length):spAt A i∈stepsA A:=by
 unfold spAt
 rw [List.getD_eq_getElem?_getD,List.getElem?_eq_getElem h]
 exact List.getElem_mem h
def DistW (A:Au) (l:List Nat) (p q:Int):Prop:=(∀ i∈l,i<(stepsA A).length)∧finI A (nextL A (wordS A l) p)≠finI A (nextL A (wordS A l) q)
theorem distW_of {A:Au} {l:List Nat} {p q:Int} (h:DistW A l p q):Dist A l.length p q:=
 ⟨wordS A l,by unfold wordS;rw [List.length_map],fun s hs=>by
  obtain⟨i,hi,rfl⟩:=List.mem_map.1 hs
  exact spAt_mem (h.1 i hi),h.2⟩
theorem word_of {A:Au}:∀ {l:List Sp},(∀ s∈l,s∈stepsA A)→ ∃ u:List Nat,(∀ i∈u,i<(stepsA A).length)∧wordS A u=l
 | [],_=>⟨[],fun i hi=>(by cases hi),rfl⟩
 |s::l,h=>by
  obtain⟨i,hi⟩:=List.getElem?_of_mem (h s (by simp))
  obtain⟨u,h1,h2⟩:=word_of fun x hx=>h x (List.mem_cons_of_mem _ hx)
  refine⟨i::u,fun j hj=>?_,?_⟩
  ·rcases List.mem_cons.1 hj with rfl|hj
   ·exact (List.getElem?_eq_some_iff.1 hi).1
   ·exact h1 j hj
  ·unfold wordS at*
   rw [List.map_cons,h2]
   unfold spAt
   rw [List.getD_eq_getElem?_getD,hi];rfl
theorem of_dist {A:Au} {d:Nat} {p q:Int} (h:Dist A d p q):∃ u:List Nat,u.length=d∧DistW A u p q:=by
 obtain⟨l,h1,h2,h3⟩:=h
 obtain⟨u,h4,h5⟩:=word_of h2
 exact⟨u,by rw [← h1,← h5];unfold wordS;rw [List.length_map],h4,by rw [h5];exact h3⟩
theorem nextL_snoc (A:Au) (l:List Sp) (s:Sp) (p:Int):nextL A (l++ [s]) p=nextI A s (nextL A l p):=by unfold nextL;rw [List.foldl_append];rfl
theorem nextL_app (A:Au) (l r:List Sp) (p:Int):nextL A (l++r) p=nextL A r (nextL A l p):=by unfold nextL;rw [List.foldl_append]
theorem nextL_in {A:Au} (hok:AuOk A):∀ {l:List Sp} {p:Int},(∀ s∈l,s∈stepsA A)→InA A p→InA A (nextL A l p)
 | [],p,_,hp=>hp
 |s::l,p,h,hp=>nextL_in (l:=l) hok (fun x hx=>h x (List.mem_cons_of_mem _ hx)) (next_in hok (mem_steps.1 (h s (by simp))) hp)
structure Way where
 p:Int
 q:Int
 l:List Nat
def Way.pr (w:Way):Int × Int:=(w.p,w.q)
def wayNext (A:Au) (w:Way) (i:Nat):Way:=⟨nextI A (spAt A i) w.p,nextI A (spAt A i) w.q,w.l++ [i]⟩
def bfsAdd (A:Au) (w:Way) (W:List Way) (i:Nat):List Way:=if (wayNext A w i).p=(wayNext A w i).q∨(wayNext A w i).pr∈W.map Way.pr then W else W++ [wayNext A w i]
structure BInv (A:Au) (p q:Int) (k i:Nat) (W:List Way):Prop where
 st:W[0]?=some ⟨p,q,[]⟩
 run:∀ w∈W,(∀ j∈w.l,j<(stepsA A).length)∧w.p=nextL A (wordS A w.l) p∧w.q=nextL A (wordS A w.l) q∧InA A w.p∧InA A w.q
 nd:(W.map Way.pr).Nodup
 par:∀ w∈W,w.l=[]∨ ∃ (j:Nat) (u:Way) (x:Nat),W[j]?=some u∧w.l=u.l++ [x]∧(j<k∨(j=k∧x<i))
 srt:W.Pairwise fun u v=>slt u.l v.l
 cl:∀ (j:Nat) (u:Way) (x:Nat),W[j]?=some u→x<(stepsA A).length→(j<k∨(j=k∧x<i))→(wayNext A u x).p=(wayNext A u x).q∨ ∃ v∈W,v.pr=(wayNext A u x).pr∧sle v.l (u.l++ [x])
 eq:∀ (j:Nat) (u:Way),W[j]?=some u→j<k→finI A u.p=finI A u.q
section
variable {A:Au} {p q:Int}
theorem BInv.init (hp:InA A p) (hq:InA A q):BInv A p q 0 0 [⟨p,q,[]⟩]:=by
 refine⟨rfl,fun w hw=>?_,by simp,fun w hw=>?_,by simp,fun j u x _ _ h=>by omega,fun j u _ h=>by omega⟩
 ·rw [List.mem_singleton] at hw;subst hw
  exact⟨fun j hj=>(by cases hj),rfl,rfl,hp,hq⟩
 ·rw [List.mem_singleton] at hw;subst hw;exact .inl rfl
theorem get_old {W:List Way} {v:Way} {j:Nat} {u:Way} (h:W[j]?=some u):(W++ [v])[j]?=some u:=by
 rw [List.getElem?_append_left (List.getElem?_eq_some_iff.1 h).1];exact h
theorem get_new {W:List Way} {v:Way} {j:Nat} {u:Way} (h:(W++ [v])[j]?=some u):W[j]?=some u∨(j=W.length∧u=v):=by
 rcases Nat.lt_or_ge j W.length with hl|hl
 ·rw [List.getElem?_append_left hl] at h;exact .inl h
 ·rw [List.getElem?_append_right hl] at h
  have:=(List.getElem?_eq_some_iff.1 h).1
  rw [List.length_singleton] at this
  have e:j=W.length:=by omega
  subst e
  rw [Nat.sub_self] at h
  exact .inr ⟨rfl,(Option.some.inj h).symm⟩
theorem BInv.add (hok:AuOk A) {k i:Nat} {W:List Way} {w:Way} (h:BInv A p q k i W) (hw:W[k]?=some w) (hi:i<(stepsA A).length):BInv A p q k (i+1) (bfsAdd A w W i)∧(bfsAdd A w W i)[k]?=some w:=by
  have hkl:=(List.getElem?_eq_some_iff.1 hw).1
  have hwm:=List.mem_of_getElem? hw
  obtain⟨w1,w2,w3,w4,w5⟩:=h.run w hwm
  have hsp:=mem_steps.1 (spAt_mem hi)
  unfold bfsAdd
  by_cases hc:(wayNext A w i).p=(wayNext A w i).q∨(wayNext A w i).pr∈W.map Way.pr
  · rw [if_pos hc]
    refine⟨⟨h.st,h.run,h.nd,fun v hv=>?_,h.srt,fun j u x hj hx hlt=>?_,h.eq⟩,hw⟩
    · rcases h.par v hv with e| ⟨j,u,x,h1,h2,h3⟩
      ·exact .inl e
      ·exact .inr ⟨j,u,x,h1,h2,by omega⟩
    · by_cases hold:j<k∨(j=k∧x<i)
      ·exact h.cl j u x hj hx hold
      · obtain ⟨rfl,rfl⟩:j=k∧x=i:=by omega
        rw [hw] at hj
        obtain rfl:=Option.some.inj hj
        rcases hc with hc|hc
        ·exact .inl hc
        · obtain⟨v,hv,e⟩:=List.mem_map.1 hc
          refine .inr ⟨v,hv,e,?_⟩
          rcases h.par v hv with e2| ⟨j',u',x',h1,h2,h3⟩
          · refine .inr (.inl ?_)
            rw [e2,List.length_append];simp
          · rw [h2]
            rcases h3 with h3| ⟨rfl,h3⟩
            · refine .inr (slt_snoc ?_)
              have hsrt:=h.srt
              rw [List.pairwise_iff_getElem] at hsrt
              have:=hsrt j' j (by omega) hkl h3
              rw [(List.getElem?_eq_some_iff.1 h1).2,(List.getElem?_eq_some_iff.1 hw).2] at this
              exact this
            · rw [hw] at h1
              obtain rfl:=Option.some.inj h1
              exact .inr (slt_last h3)
  · rw [if_neg hc]
    have hc1:¬ (wayNext A w i).p=(wayNext A w i).q:=fun e=>hc (.inl e)
    have hc2:(wayNext A w i).pr ∉ W.map Way.pr:=fun e=>hc (.inr e)
    refine⟨⟨get_old h.st,fun v hv=>?_,?_,fun v hv=>?_,?_,fun j u x hj hx hlt=>?_,fun j u hj hlt=>?_⟩,get_old hw⟩
    · rcases List.mem_append.1 hv with hv|hv
      ·exact h.run v hv
      · rw [List.mem_singleton] at hv;subst hv
        refine⟨fun j hj=>?_,?_,?_,next_in hok hsp w4,next_in hok hsp w5⟩
        · rcases List.mem_append.1 hj with hj|hj
          ·exact w1 j hj
          ·rw [List.mem_singleton] at hj;omega
        · show nextI A (spAt A i) w.p=nextL A (wordS A (w.l++ [i])) p
          unfold wordS
          rw [List.map_append,w2]
          exact (nextL_snoc A _ _ _).symm
        · show nextI A (spAt A i) w.q=nextL A (wordS A (w.l++ [i])) q
          unfold wordS
          rw [List.map_append,w3]
          exact (nextL_snoc A _ _ _).symm
    · rw [List.map_append,List.nodup_append]
      refine⟨h.nd,by simp,fun a ha b hb e=>?_⟩
      rw [List.map_singleton,List.mem_singleton] at hb
      rw [e,hb] at ha
      exact hc2 ha
    · rcases List.mem_append.1 hv with hv|hv
      · rcases h.par v hv with e| ⟨j,u,x,h1,h2,h3⟩
        ·exact .inl e
        ·exact .inr ⟨j,u,x,get_old h1,h2,by omega⟩
      · rw [List.mem_singleton] at hv;subst hv
        exact .inr ⟨k,w,i,get_old hw,rfl,.inr ⟨rfl,by omega⟩⟩
    · rw [List.pairwise_append]
      refine⟨h.srt,by simp,fun u hu v hv=>?_⟩
      rw [List.mem_singleton] at hv;subst hv
      show slt u.l (w.l++ [i])
      rcases h.par u hu with e| ⟨j,u',x,h1,h2,h3⟩
      · refine .inl ?_
        rw [e,List.length_append];simp
      · rw [h2]
        rcases h3 with h3| ⟨rfl,h3⟩
        · refine slt_snoc ?_
          have hsrt:=h.srt
          rw [List.pairwise_iff_getElem] at hsrt
          have:=hsrt j k (by omega) hkl h3
          rw [(List.getElem?_eq_some_iff.1 h1).2,(List.getElem?_eq_some_iff.1 hw).2] at this
          exact this
        · rw [hw] at h1
          obtain rfl:=Option.some.inj h1
          exact slt_last h3
    · rcases get_new hj with hj'| ⟨rfl,rfl⟩
      · clear hj
        by_cases hold:j<k∨(j=k∧x<i)
        · rcases h.cl j u x hj' hx hold with e| ⟨v,hv,e⟩
          ·exact .inl e
          ·exact .inr ⟨v,List.mem_append_left _ hv,e⟩
        · obtain⟨rfl,rfl⟩:j=k∧x=i:=by omega
          rw [hw] at hj'
          obtain rfl:=Option.some.inj hj'
          exact .inr ⟨_,List.mem_append_right _ (List.mem_singleton.2 rfl),rfl,.inl rfl⟩
      ·omega
    · rcases get_new hj with hj| ⟨rfl,rfl⟩
      ·exact h.eq j u hj hlt
      ·omega
theorem BInv.next {k:Nat} {W:List Way} {w:Way} (h:BInv A p q k (stepsA A).length W) (hw:W[k]?=some w) (he:finI A w.p=finI A w.q):BInv A p q (k+1) 0 W:=by
 refine⟨h.st,h.run,h.nd,fun v hv=>?_,h.srt,fun j u x hj hx hlt=>?_,fun j u hj hlt=>?_⟩
 ·rcases h.par v hv with e| ⟨j,u,x,h1,h2,h3⟩
  ·exact .inl e
  ·exact .inr ⟨j,u,x,h1,h2,by omega⟩
 ·exact h.cl j u x hj hx (by omega)
 ·by_cases hk:j<k
  ·exact h.eq j u hj hk
  ·obtain rfl:j=k:=by omega
   rw [hw] at hj
   obtain rfl:=Option.some.inj hj
   exact he
theorem BInv.cover (hok:AuOk A) {k:Nat} {W:List Way} (h:BInv A p q k 0 W) (hp:InA A p) (hq:InA A q):∀ (n:Nat) (u r:List Nat),u.length=n→(∀ i∈u++r,i<(stepsA A).length)→finI A (nextL A (wordS A (u++r)) p)≠finI A (nextL A (wordS A (u++r)) q)→(∀ v∈W,v.l.length<n→ ∃ j,j<k∧W[j]?=some v)→ ∃ v∈W,v.pr=(nextL A (wordS A u) p,nextL A (wordS A u) q)∧sle v.l u:=by
 intro n
 induction n with
 |zero=>
  intro u r hu _ _ _
  obtain rfl:=List.eq_nil_of_length_eq_zero hu
  exact⟨_,List.mem_of_getElem? h.st,rfl,.inl rfl⟩
 |succ n ih=>
  intro u r hu hr hd hpop
  obtain⟨u',x,rfl⟩:∃ u' x,u=u'++ [x]:=by
   rcases List.eq_nil_or_concat u with e| ⟨u',x,e⟩
   ·rw [e] at hu;cases hu
   ·exact⟨u',x,by rw [e,List.concat_eq_append]⟩
  have hu':u'.length=n:=by rw [List.length_append,List.length_singleton] at hu;omega
  have hxl:x<(stepsA A).length:=hr x (by simp)
  obtain⟨v,hv,e,hle⟩:=ih u' ([x]++r) hu' (fun i hi=>hr i (by simpa using hi)) (by rw [← List.append_assoc];exact hd) (fun v hv hl=>hpop v hv (by omega))
  have hvl:v.l.length<n+1:=by
   rcases hle with hle|hle|hle
   ·rw [hle];omega
   ·omega
   ·omega
  obtain⟨j,hj,hjv⟩:=hpop v hv hvl
  have hstep:(nextL A (wordS A (u'++ [x])) p,nextL A (wordS A (u'++ [x])) q)=(wayNext A v x).pr:=by
   have e1:v.p=nextL A (wordS A u') p:=congrArg Prod.fst e
   have e2:v.q=nextL A (wordS A u') q:=congrArg Prod.snd e
   unfold wordS
   rw [List.map_append,List.map_singleton,nextL_snoc,nextL_snoc]
   unfold wayNext Way.pr
   rw [e1,e2];rfl
  rcases h.cl j v x hjv hxl (.inl hj) with hdg| ⟨v',hv',e',hle'⟩
  ·exfalso
   refine hd ?_
   have e1:nextL A (wordS A (u'++ [x])) p=(wayNext A v x).p:=congrArg Prod.fst hstep
   have e2:nextL A (wordS A (u'++ [x])) q=(wayNext A v x).q:=congrArg Prod.snd hstep
   have hsplit:wordS A (u'++ [x]++r)=wordS A (u'++ [x])++wordS A r:=by unfold wordS;rw [List.map_append]
   rw [hsplit,nextL_app,nextL_app,e1,e2,hdg]
  ·exact⟨v',hv',by rw [hstep];exact e',sle_trans hle' (sle_snoc hle)⟩
theorem BInv.found (hok:AuOk A) {k:Nat} {W:List Way} {w:Way} (h:BInv A p q k 0 W) (hp:InA A p) (hq:InA A q) (hw:W[k]?=some w) (hd:finI A w.p≠finI A w.q):DistW A w.l p q∧ ∀ g,DistW A g p q→sle w.l g:=by
 obtain⟨w1,w2,w3,w4,w5⟩:=h.run w (List.mem_of_getElem? hw)
 refine⟨⟨w1,by rw [← w2,← w3];exact hd⟩,fun g hg=>?_⟩
 rcases slt_total w.l g with hl|hl|hl
 ·exact .inr hl
 ·exact .inl hl
 ·exfalso
  have hkl:=(List.getElem?_eq_some_iff.1 hw).1
  have   hbefore:∀ v∈W,slt v.l w.l→ ∃ j,j<k∧W[j]?=some v:=fun v hv hlt=>by
   obtain⟨j,hj⟩:=List.getElem?_of_mem hv
   refine⟨j,?_,hj⟩
   refine Classical.byContradiction fun hn=>?_
   have hjl:=(List.getElem?_eq_some_iff.1 hj).1
   rcases Nat.lt_or_ge k j with hkj|hkj
   ·    have hsrt:=h.srt
        rw [List.pairwise_iff_getElem] at hsrt
        have:=hsrt k j hkl hjl hkj
        rw [(List.getElem?_eq_some_iff.1 hj).2,(List.getElem?_eq_some_iff.1 hw).2] at this
        exact slt_irr _ (slt_trans hlt this)
   ·    obtain rfl:j=k:=by omega
        rw [hw] at hj
        obtain rfl:=Option.some.inj hj
        exact slt_irr _ hlt
  have hgl:g.length≤w.l.length:=by
   rcases hl with hl| ⟨hl,_⟩
   ·omega
   ·omega
  obtain⟨v,hv,e,hle⟩:=h.cover hok hp hq g.length g [] rfl (by rw [List.append_nil];exact hg.1) (by rw [List.append_nil];exact hg.2) (fun v hv hlt=>hbefore v hv (.inl (by omega)))
  have hvw:slt v.l w.l:=by
   rcases hle with hle|hle
   ·rw [hle];exact hl
   ·exact slt_trans hle hl
  obtain⟨j,hj,hjv⟩:=hbefore v hv hvw
  have:=h.eq j v hjv hj
  have e1:v.p=nextL A (wordS A g) p:=congrArg Prod.fst e
  have e2:v.q=nextL A (wordS A g) q:=congrArg Prod.snd e
  rw [e1,e2] at this
  exact hg.2 this
theorem BInv.none (hok:AuOk A) {W:List Way} (h:BInv A p q W.length 0 W) (hp:InA A p) (hq:InA A q):Eqv A p q:=fun d hd=>by
 obtain⟨g,hg1,hg⟩:=of_dist hd
 have hpop:∀ v∈W,∃ j,j<W.length∧W[j]?=some v:=fun v hv=>by
  obtain⟨j,hj⟩:=List.getElem?_of_mem hv
  exact⟨j,(List.getElem?_eq_some_iff.1 hj).1,hj⟩
 obtain⟨v,hv,e,hle⟩:=h.cover hok hp hq g.length g [] rfl (by rw [List.append_nil];exact hg.1) (by rw [List.append_nil];exact hg.2) (fun v hv _=>hpop v hv)
 obtain⟨j,hj,hjv⟩:=hpop v hv
 have:=h.eq j v hjv hj
 have e1:v.p=nextL A (wordS A g) p:=congrArg Prod.fst e
 have e2:v.q=nextL A (wordS A g) q:=congrArg Prod.snd e
 rw [e1,e2] at this
 exact hg.2 this
theorem pairs_few {n:Nat} {l:List (Int × Int)} (hnd:l.Nodup) (h:∀ x∈l,(0≤x.1∧x.1<(n:Int))∧(0≤x.2∧x.2<(n:Int))):l.length≤n*n:=by
 have h1:=pigeon_few (n*n) (l.map fun x=>x.1*(n:Int)+x.2) ?_ fun s hs=>?_
 ·rwa [List.length_map] at h1
 ·rw [List.nodup_iff_pairwise_ne,List.pairwise_map]
  rw [List.nodup_iff_pairwise_ne] at hnd
  refine List.Pairwise.imp_of_mem ?_ hnd
  intro a b ha hb hne e
  refine hne ?_
  obtain⟨a1,a2⟩:=h a ha
  obtain⟨b1,b2⟩:=h b hb
  have d1:=divmod_pair (a:=a.1) a2
  have d2:=divmod_pair (a:=b.1) b2
  rw [e] at d1
  exact Prod.ext (d1.1.symm.trans d2.1) (d1.2.symm.trans d2.2)
 ·obtain⟨x,hx,rfl⟩:=List.mem_map.1 hs
  obtain⟨⟨h1,h2⟩,h3,h4⟩:=h x hx
  obtain⟨a,ha⟩:=Int.eq_ofNat_of_zero_le h1
  obtain⟨b,hb⟩:=Int.eq_ofNat_of_zero_le h3
  rw [ha,hb]
  have ha':a<n:=by omega
  have:(a+1)*n≤n*n:=Nat.mul_le_mul_right _ ha'
  rw [Nat.add_mul,Nat.one_mul] at this
  rw [← Int.natCast_mul]
  omega
theorem BInv.few {k i:Nat} {W:List Way} (h:BInv A p q k i W):W.length≤A.final.length*A.final.length:=by
 have:=pairs_few (n:=A.final.length) h.nd fun x hx=>by
  obtain⟨w,hw,rfl⟩:=List.mem_map.1 hx
  exact⟨(h.run w hw).2.2.2.1,(h.run w hw).2.2.2.2⟩
 rwa [List.length_map] at this
end
end Go.Mn
