/- Sorting: one exchange. No condition. -/
import Derived.Test.YtichhfbkhnimmaaVSZ2
set_option linter.unusedSimpArgs false
set_option linter.unusedVariables false
set_option maxHeartbeats 4000000
set_option maxRecDepth 8000
namespace Go.Proofs.Ytichhfbkhnimmaa
open Go Go.RowKit Go.PP Go.Dm Go.Rt Go.Mn
theorem x7_ (n:Nat) (SZ:List D) (q:persL SZ=true) (s t a b:Nat) (hs:s<n) (ht:t<n) (hn:n≤1000000) (ha:a≤4097) (hb:b≤4097) (h1:partD false 1 (s*1) SZ=some (.flat (.int .i64 ((a:Nat):Int)))) (h2:partD false 1 (t*1) SZ=some (.flat (.int .i64 ((b:Nat):Int)))):DFun Try.prog 81 [.flat (.int .i64 ((s:Nat):Int)),.flat (.int .i64 ((t:Nat):Int)),.ptr [.sl false 1 n SZ] 0] (.flat (.int .i64 (((a:Nat):Int) - ((b:Nat):Int)))):=by
 refine DFun.enterA Try.func81 Try.ntmps81 ?_
 refine DW.walk ?_
 exact⟨.inr rfl,ResOk.one [] rfl rfl trivial (Vw.pers rfl)⟩
theorem a4_ {n q:Nat} (sz:Nat→Nat) (h:q<n):partD false 1 (q*1) ((szL n sz).map fun x=>D.flat (.int .i64 x))=some (.flat (.int .i64 (((sz q):Nat):Int))):=an_ (sx_ sz h)
theorem o4_ {n s:Nat} (sz:Nat→Nat) (v:Nat) (h:s<n):List.take (s*1) ((szL n sz).map fun x=>D.flat (.int .i64 x))++ [.flat (.int .i64 ((v:Nat):Int))]++List.drop (s*1+1) ((szL n sz).map fun x=>D.flat (.int .i64 x))=((szL n (updS sz s v)).map fun x=>D.flat (.int .i64 x)):=by
 have h1:=k4_ sz v _ rfl h
 rw [Nat.zero_add] at h1
 rw [Nat.mul_one]
 exact h1
noncomputable abbrev sj_:Code:=Try.f127.body.getD .skip
theorem zb_ {cc:Code} (hsel:selC [1,2,2,1,0,2,1,2,2] sj_=some cc) (L n:Nat) (SZ:List D) (key g:Nat→Nat) (i j:Nat) (hL:L≤1000000) (hn:n≤1000000) (hj:j≤i) (hi:i<L) (qs:persL SZ=true) (hg:∀ x,x<L→g x<n) (hk:∀ s,s<n→partD false 1 (s*1) SZ=some (.flat (.int .i64 (((key s):Nat):Int)))∧key s≤4097):
  DW Try.prog 53 cc ⟨[(0,.own 923237923610951731200003 L),(1,.flat (.int .i64 0)),(2,.flat (.int .i64 ((L:Nat):Int))),(3,.clo (.func 81) [] [.ptr [.sl false 1 n SZ] 0]),(8,.flat (.int .i64 ((i:Nat):Int))),(9,.flat (.int .i64 ((j:Nat):Int)))],[(923237923610951731200003,some (.row 3 1 L ((szL L g).map fun x=>D.flat (.int .i64 x))))]⟩ (fun e s=>(e= .normal∧ ∃ k,j=k+1∧key (g (k+1))<key (g k)∧Dm.Sub 53 s ⟨[(0,.own 923237923610951731200003 L),(1,.flat (.int .i64 0)),(2,.flat (.int .i64 ((L:Nat):Int))),(3,.clo (.func 81) [] [.ptr [.sl false 1 n SZ] 0]),(8,.flat (.int .i64 ((i:Nat):Int))),(9,.flat (.int .i64 ((k:Nat):Int)))],[(923237923610951731200003,some (.row 3 1 L ((szL L (swF g k)).map fun x=>D.flat (.int .i64 x))))]⟩)∨(e= .exit 2∧insF key j g=g∧Dm.Sub 53 s ⟨[(0,.own 923237923610951731200003 L),(1,.flat (.int .i64 0)),(2,.flat (.int .i64 ((L:Nat):Int))),(3,.clo (.func 81) [] [.ptr [.sl false 1 n SZ] 0]),(8,.flat (.int .i64 ((i:Nat):Int))),(9,.flat (.int .i64 ((j:Nat):Int)))],[(923237923610951731200003,some (.row 3 1 L ((szL L g).map fun x=>D.flat (.int .i64 x))))]⟩)):=by
 have q0:=ab_ (szL L g)
 have l0:((szL L g).map fun x=>D.flat (.int .i64 x)).length=L:=by rw [List.length_map,ex_]
 refine DW.sel hsel (by rfl) ?_
 cases j with
 |zero=>
  generalize ((szL L g).map fun x=>D.flat (.int .i64 x))=C0 at*
  refine DW.walk ?_
  exact .inr ⟨rfl,rfl,Sub.auto⟩
 |succ k=>
  have hk1:=hg k (by omega)
  have hk2:=hg (k+1) (by omega)
  obtain⟨p1,b1⟩:=hk _ hk1
  obtain⟨p2,b2⟩:=hk _ hk2
  have hc:=x7_ n SZ qs (g (k+1)) (g k) _ _ hk2 hk1 hn b2 b1 p2 p1
  have e1:=a4_ g (show k<L by omega)
  have e2:=a4_ g (show k+1<L by omega)
  by_cases hlt:key (g (k+1))<key (g k)
  ·have hd:((key (g (k+1)):Nat):Int) - ((key (g k):Nat):Int)<0:=by omega
   have s1:=o4_ g (g k) (show k+1<L by omega)
   have s2:=o4_ (updS g (k+1) (g k)) (g (k+1)) (show k<L by omega)
   have q1:=ab_ (szL L (updS g (k+1) (g k)))
   have q2:=ab_ (szL L (swF g k))
   have l1:((szL L (updS g (k+1) (g k))).map fun x=>D.flat (.int .i64 x)).length=L:=by rw [List.length_map,ex_]
   rw [show updS (updS g (k+1) (g k)) k (g (k+1))=swF g k from rfl] at s2
   refine DW.mono (Q:=fun e s=>e= .normal∧Dm.Sub 53 s ⟨[(0,.own 923237923610951731200003 L),(1,.flat (.int .i64 0)),(2,.flat (.int .i64 ((L:Nat):Int))),(3,.clo (.func 81) [] [.ptr [.sl false 1 n SZ] 0]),(8,.flat (.int .i64 ((i:Nat):Int))),(9,.flat (.int .i64 ((k:Nat):Int)))],[(923237923610951731200003,some (.row 3 1 L ((szL L (swF g k)).map fun x=>D.flat (.int .i64 x))))]⟩) ?_ (fun e s h=> .inl ⟨h.1,k,rfl,hlt,h.2⟩)
   clear hg hk p1 p2
   generalize key (g (k+1))=ka at*
   generalize key (g k)=kb at*
   generalize hC2:((szL L (swF g k)).map fun x=>D.flat (.int .i64 x))=C2 at*
   generalize ((szL L (updS g (k+1) (g k))).map fun x=>D.flat (.int .i64 x))=C1 at*
   generalize ((szL L g).map fun x=>D.flat (.int .i64 x))=C0 at*
   generalize g (k+1)=gj at*
   generalize g k=gk at*
   have z1:SplD C0 ((k+1)*1) [.flat (.int .i64 ((gk:Nat):Int))] C1:=⟨s1⟩
   have z2:SplD C1 ((k+1 - 1)*1) [.flat (.int .i64 ((gj:Nat):Int))] C2:=⟨s2⟩
   clear s1 s2
   refine DW.walk ?_
   rw [show (((k+1:Nat):Nat):Int) - 1=((k:Nat):Int) by omega]
   exact⟨rfl,Sub.auto⟩
  ·have hd:¬ ((key (g (k+1)):Nat):Int) - ((key (g k):Nat):Int)<0:=by omega
   have hin:insF key (k+1) g=g:=by rw [insF,if_neg hlt]
   refine DW.mono (Q:=fun e s=>e= .exit 2∧Dm.Sub 53 s ⟨[(0,.own 923237923610951731200003 L),(1,.flat (.int .i64 0)),(2,.flat (.int .i64 ((L:Nat):Int))),(3,.clo (.func 81) [] [.ptr [.sl false 1 n SZ] 0]),(8,.flat (.int .i64 ((i:Nat):Int))),(9,.flat (.int .i64 (((k+1):Nat):Int)))],[(923237923610951731200003,some (.row 3 1 L ((szL L g).map fun x=>D.flat (.int .i64 x))))]⟩) ?_ (fun e s h=> .inr ⟨h.1,hin,h.2⟩)
   clear hg hk p1 p2 hin
   generalize key (g (k+1))=ka at*
   generalize key (g k)=kb at*
   generalize hC0:((szL L g).map fun x=>D.flat (.int .i64 x))=C0 at*
   generalize g (k+1)=gj at*
   generalize g k=gk at*
   refine DW.walk ?_
   exact⟨rfl,Sub.auto⟩
theorem u5_ (L n:Nat) (SZ:List D) (key f:Nat→Nat) (hL:L≤1000000) (hn:n≤1000000) (qs:persL SZ=true) (hf:∀ x,x<L→f x<n) (hk:∀ s,s<n→partD false 1 (s*1) SZ=some (.flat (.int .i64 (((key s):Nat):Int)))∧key s≤4097):
  DLend Try.prog 127 [.own 923237923610951731200003 L,.flat (.int .i64 0),.flat (.int .i64 ((L:Nat):Int)),.clo (.func 81) [] [.ptr [.sl false 1 n SZ] 0]] [(923237923610951731200003,some (.row 3 1 L ((szL L f).map fun x=>D.flat (.int .i64 x))))] [(923237923610951731200003,some (.row 3 1 L ((szL L (cj_ key f (L - 1))).map fun x=>D.flat (.int .i64 x))))] (.tup []):=by
 have hin:=fun (cc:Code) (h:selC [1,2,2,1,0,2,1,2,2] sj_=some cc) (g:Nat→Nat) (i j:Nat) (hj:j≤i) (hi:i<L) hg=>zb_ h L n SZ key g i j hL hn hj hi qs hg hk
 have hpm:=fun m (h:m<L) x (hx:x<L)=>(show cj_ key f m x<n by
  obtain⟨z,hz,e⟩:=((i4_ key f m h).mem (cj_ key f m x)).1 ⟨x,hx,rfl⟩
  rw [← e];exact hf z hz)
 have hpj:=fun (g:Nat→Nat) (hg:∀ x,x<L→g x<n) (k:Nat) (h:k+1<L)=>(fun x hx=>(show swF g k x<n by
  obtain⟨z,hz,e⟩:=((s5_ h g).mem (swF g k x)).1 ⟨x,hx,rfl⟩
  rw [← e];exact hg z hz))
 have qp:=fun g=>ab_ (szL L g)
 have lp:∀ g,((szL L g).map fun x=>D.flat (.int .i64 x)).length=L:=fun g=>by rw [List.length_map,ex_]
 have q0:=qp f
 refine DLend.enterA Try.func127 Try.ntmps127 ?_
 generalize hC:((szL L f).map fun x=>D.flat (.int .i64 x))=C0 at*
 refine DW.walk ?_
 rw [← hC]
 clear hC
 refine DW.loopA (fun m:Nat=>⟨[(0,.own 923237923610951731200003 L),(1,.flat (.int .i64 0)),(2,.flat (.int .i64 ((L:Nat):Int))),(3,.clo (.func 81) [] [.ptr [.sl false 1 n SZ] 0]),(8,.flat (.int .i64 (((m+1):Nat):Int)))],[(923237923610951731200003,some (.row 3 1 L ((szL L (cj_ key f m)).map fun x=>D.flat (.int .i64 x))))]⟩) (fun m=>m=0∨m<L) (fun m=>L - (m+1)) 0 ?_ (.inl rfl) (by have q9:=qp f;show Sub _ _ ⟨[(0,.own 923237923610951731200003 L),(1,.flat (.int .i64 0)),(2,.flat (.int .i64 ((L:Nat):Int))),(3,.clo (.func 81) [] [.ptr [.sl false 1 n SZ] 0]),(8,.flat (.int .i64 ((1:Nat):Int)))],[(923237923610951731200003,some (.row 3 1 L ((szL L f).map fun x=>D.flat (.int .i64 x))))]⟩;generalize ((szL L f).map fun x=>D.flat (.int .i64 x))=C0 at *;exact Sub.auto)
 intro m hm
 have q9:=qp (cj_ key f m)
 rcases Nat.lt_or_ge (m+1) L with hlt|hge
 ·have hg:=hpm m (by omega)
  generalize hC:((szL L (cj_ key f m)).map fun x=>D.flat (.int .i64 x))=C0 at*
  refine DW.walk ?_
  rw [← hC]
  clear hC
  refine DW.loopA (fun x:Nat × (Nat→Nat)=>⟨[(0,.own 923237923610951731200003 L),(1,.flat (.int .i64 0)),(2,.flat (.int .i64 ((L:Nat):Int))),(3,.clo (.func 81) [] [.ptr [.sl false 1 n SZ] 0]),(8,.flat (.int .i64 (((m+1):Nat):Int))),(9,.flat (.int .i64 ((x.1:Nat):Int)))],[(923237923610951731200003,some (.row 3 1 L ((szL L x.2).map fun x=>D.flat (.int .i64 x))))]⟩) (fun x=>x.1≤m+1∧insF key x.1 x.2=cj_ key f (m+1)∧ ∀ y,y<L→x.2 y<n) (fun x=>x.1) (m+1,cj_ key f m) ?_ ⟨Nat.le_refl _,rfl,hg⟩ (by have q9:=qp (cj_ key f m);show Sub _ _ ⟨[(0,.own 923237923610951731200003 L),(1,.flat (.int .i64 0)),(2,.flat (.int .i64 ((L:Nat):Int))),(3,.clo (.func 81) [] [.ptr [.sl false 1 n SZ] 0]),(8,.flat (.int .i64 (((m+1):Nat):Int))),(9,.flat (.int .i64 (((m+1):Nat):Int)))],[(923237923610951731200003,some (.row 3 1 L ((szL L (cj_ key f m)).map fun x=>D.flat (.int .i64 x))))]⟩;generalize ((szL L (cj_ key f m)).map fun x=>D.flat (.int .i64 x))=C0 at *;exact Sub.auto)
  rintro⟨j,g⟩ ⟨h1,h2,h3⟩
  simp only at h1 h2 h3
  refine (hin _ (by rfl) g (m+1) j h1 hlt h3).mono ?_
  rintro e s' (⟨rfl,k,rfl,hlt2,hsub⟩| ⟨rfl,h4,hsub⟩)
  ·refine⟨(k,swF g k),⟨by show k≤m+1;omega,?_,hpj g h3 k (by omega)⟩,by show k<k+1;omega,hsub⟩
   show insF key k (swF g k)=_
   rw [← h2,insF,if_pos hlt2]
  ·rw [h2] at h4
   subst h4
   have q8:=qp (cj_ key f (m+1))
   show DW _ _ _ _ _
   refine DW.sub hsub ?_
   generalize hC:((szL L (cj_ key f (m+1))).map fun x=>D.flat (.int .i64 x))=C0 at*
   refine DW.walk ?_
   exact⟨m+1,.inr hlt,by omega,by rw [hC];exact Sub.auto⟩
 ·have   he:L - 1=m∨L=0:=by omega
  have   hm2:cj_ key f (L - 1)=cj_ key f m:=by
   rcases he with he|he
   ·rw [he]
   ·    subst he
        obtain rfl:m=0:=by omega
        rfl
  rw [hm2]
  generalize ((szL L (cj_ key f m)).map fun x=>D.flat (.int .i64 x))=C0 at*
  clear hin hpm hpj
  refine DW.walk ?_
  exact⟨.inl rfl,ResL.unitA⟩
theorem nu_ (L n:Nat) (SZ:List D) (key f:Nat→Nat) (hL:L<20) (hn:n≤1000000) (qs:persL SZ=true) (hf:∀ x,x<L→f x<n) (hk:∀ s,s<n→partD false 1 (s*1) SZ=some (.flat (.int .i64 (((key s):Nat):Int)))∧key s≤4097):
  DLend Try.prog 111 [.own 923237923610951731200003 L,.flat (.int .i64 ((L:Nat):Int)),.clo (.func 81) [] [.ptr [.sl false 1 n SZ] 0]] [(923237923610951731200003,some (.row 3 1 L ((szL L f).map fun x=>D.flat (.int .i64 x))))] [(923237923610951731200003,some (.row 3 1 L ((szL L (cj_ key f (L - 1))).map fun x=>D.flat (.int .i64 x))))] (.tup []):=by
 have h:=u5_ L n SZ key f (by omega) hn qs hf hk
 have q0:=ab_ (szL L f)
 have q1:=ab_ (szL L (cj_ key f (L - 1)))
 clear hf hk
 generalize ((szL L (cj_ key f (L - 1))).map fun x=>D.flat (.int .i64 x))=C1 at*
 generalize ((szL L f).map fun x=>D.flat (.int .i64 x))=C0 at*
 refine DLend.enterA Try.func111 Try.ntmps111 ?_
 refine DW.walk ?_
 refine DW.loopA (fun _:Unit=>⟨[(0,.own 923237923610951731200003 L),(1,.flat (.int .i64 ((L:Nat):Int))),(2,.clo (.func 81) [] [.ptr [.sl false 1 n SZ] 0]),(6,.flat (.int .i64 20)),(7,.flat (.int .i64 0)),(8,.flat (.int .i64 20))],[(923237923610951731200003,some (.row 3 1 L C0))]⟩) (fun _=>True) (fun _=>0) () ?_ trivial
 intro _ _
 refine DW.walk ?_
 refine DW.loopA (fun _:Unit=>⟨[(0,.own 923237923610951731200003 L),(1,.flat (.int .i64 ((L:Nat):Int))),(2,.clo (.func 81) [] [.ptr [.sl false 1 n SZ] 0]),(6,.flat (.int .i64 20))],[(923237923610951731200003,some (.row 3 1 L C1))]⟩) (fun _=>True) (fun _=>0) () ?_ trivial
 intro _ _
 refine DW.walk ?_
 exact⟨.inl rfl,ResL.unitA⟩
theorem wi_ (L n:Nat) (SZ:List D) (key f:Nat→Nat) (hL:L<20) (hn:n≤1000000) (qs:persL SZ=true) (hf:∀ x,x<L→f x<n) (hk:∀ s,s<n→partD false 1 (s*1) SZ=some (.flat (.int .i64 (((key s):Nat):Int)))∧key s≤4097):
  DLend Try.prog 80 [.own 923237923610951731200003 L,.clo (.func 81) [] [.ptr [.sl false 1 n SZ] 0]] [(923237923610951731200003,some (.row 3 1 L ((szL L f).map fun x=>D.flat (.int .i64 x))))] [(923237923610951731200003,some (.row 3 1 L ((szL L (cj_ key f (L - 1))).map fun x=>D.flat (.int .i64 x))))] (.tup []):=by
 have h:=nu_ L n SZ key f hL hn qs hf hk
 have q0:=ab_ (szL L f)
 have q1:=ab_ (szL L (cj_ key f (L - 1)))
 clear hf hk
 generalize ((szL L (cj_ key f (L - 1))).map fun x=>D.flat (.int .i64 x))=C1 at*
 generalize ((szL L f).map fun x=>D.flat (.int .i64 x))=C0 at*
 refine DLend.enterA Try.func80 Try.ntmps80 ?_
 refine DW.walk ?_
 exact⟨.inl rfl,ResL.unitA⟩
end Go.Proofs.Ytichhfbkhnimmaa
