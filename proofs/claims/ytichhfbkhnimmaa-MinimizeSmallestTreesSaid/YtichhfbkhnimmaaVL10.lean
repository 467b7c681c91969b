/- The law of smallest trees, over data. No condition. -/
import Derived.Test.YtichhfbkhnimmaaVLA
import Derived.Test.YtichhfbkhnimmaaVBT
import Derived.Test.YtichhfbkhnimmaaVL8r
set_option linter.unusedSimpArgs false
set_option linter.unusedVariables false
set_option maxHeartbeats 4000000
set_option maxRecDepth 8000
namespace Go.Proofs.Ytichhfbkhnimmaa
open Go Go.RowKit Go.PP Go.Dm Go.Rt Go.Mn
theorem n6_ {A:Au} (h:i7_ A=true):fewB A=true∧chk A=0:=by
 unfold i7_ at h
 rw [Bool.and_eq_true] at h
 exact⟨h.1,of_decide_eq_true h.2⟩
theorem uo_ (A:Au) (h:i7_ A=false):DFun Try.prog 10 [auD A] (.flat (.bool true)):=by
 have hkn:=tq_
 have hr:=tp_ A
 rw [h] at hr
 have q1:=ab_ A.r
 have q2:=al_ A.f
 have q3:=ao_ A.to
 rw [a1_ A] at hr ⊢
 generalize (A.r.map fun x=>D.flat (.int .i64 x))=LR at*
 generalize (A.f.map fun x=>D.flat (.bool x))=LB at*
 generalize aj_ A.to=LT at*
 generalize A.r.length=lr at*
 generalize A.f.length=lb at*
 generalize A.to.length=lt at*
 refine DFun.enterA Try.func10 Try.ntmps10 ?_
 refine DW.walk ?_
 exact⟨.inr rfl,ResOk.one [] rfl rfl trivial (Vw.pers rfl)⟩
theorem tn_ (A:Au) (h:i7_ A=true):DFun Try.prog 10 [auD A] (.flat (.bool true)):=by
 obtain⟨h6,hk⟩:=n6_ h
 have h6:A.f.length≤6:=(of_decide_eq_true h6).1
 have hok:=a6_ hk
 have hkn:=tq_
 have hr:=tp_ A
 rw [h] at hr
 have hfr:=aai A
 obtain⟨TL,IS,hS⟩:=abw A hk
 have hsm:=xz_ A hk h6 (.tup [.sl false 2 A.f.length (ae_ TL),.sl false 1 A.f.length (bC IS),.flat (.int .i64 0)]) fun T1 I1 h1=>by obtain⟨rfl,rfl⟩:=rg_ h1 hS;rfl
 have htr:=yu_ A hk (.tup [.sl false 2 A.f.length (ae_ TL),.sl false 1 A.f.length (bC IS)]) fun T1 I1 h1=>by obtain⟨rfl,rfl⟩:=rg_ h1 hS;rfl
 have hlt:=hS.lt
 have hli:=hS.li
 have hts:∀ i,i<A.f.length→TSm (TL.getD i (.node 0 [])):=fun k hk2=>by
  cases hb:IS.getD k false with
  |true=>exact cw_ 4096 _ (hS.yes k hk2 hb).1.z (by decide)
  |false=>rw [(hS.no k hk2 hb).1];exact cw_ 1 _ (by rw [aq_];exact Nat.le_refl _) (by decide)
 have hrun:=fun (t:Tr) (ht:TSm t)=>yc_ A hk t ht
 have hyes:∀ i,i<A.f.length→IS.getD i false=true→(if rightE A.r (TL.getD i (.node 0 []))=0 then a0_ A (TL.getD i (.node 0 [])) else 0)=(i:Int)∧rightE A.r (TL.getD i (.node 0 []))=0:=fun i hi hb=>by
  have h1:=hS.yes i hi hb
  have h2:=qd_ hk h6 hi h1
  rw [if_pos h2]
  exact⟨h1.1.s,h2⟩
 have hbk:=fun (t:Tr) (ht:TSm t)=>w1_ _ t (Nat.le_refl _) ht
 have hcm:=fun (t:Tr) (ht:TSm t)=>(show DFun Try.prog 44 [c2_ t,c2_ t] (.flat (.int .i64 0)) from by have:=ok_ _ t t (Nat.le_refl _) ht ht;rwa [ed_] at this)
 have hpt:=fun k (h:k<A.f.length)=>cb_ (TL:=TL) (x:=k) (by omega)
 have hpb:∀ k,k<A.f.length→partD false 1 (k*1) (bC IS)=some (.flat (.bool (IS.getD k false))):=fun k h=>ef_ (by rw [List.getD_eq_getElem?_getD,List.getElem?_eq_getElem (by omega)];rfl)
 have pT:=ah_
 have p7:=ah_ TL
 have p9:persL (bC IS)=true:=al_ IS
 have q1:=ab_ A.r
 have q2:=al_ A.f
 have q3:=ao_ A.to
 rw [a1_ A] at hr hfr hsm htr hrun ⊢
 clear h hS hk hok
 generalize hTC:ae_ TL=TC at*
 generalize bC IS=IC at*
 generalize (A.r.map fun x=>D.flat (.int .i64 x))=LR at*
 generalize (A.f.map fun x=>D.flat (.bool x))=LB at*
 generalize aj_ A.to=LT at*
 generalize hrk:A.r=RK at*
 generalize RK.length=lr at*
 generalize A.f.length=n at*
 generalize A.to.length=lt at*
 refine DFun.enterA Try.func10 Try.ntmps10 ?_
 refine DW.walk ?_
 refine DW.loopA (fun i:Nat=>⟨[(1,.ref 1 0),(3,.ref 3 0),(4,.sl false 2 n TC),(5,.sl false 1 n IC),(7,.sl false 2 n TC),(8,.sl false 1 n IC),(9,.flat (.int .i64 ((i:Nat):Int)))],[(1,some (.box [.sl false 1 lr LR,.sl false 1 n LB,.sl false 1 lt LT])),(3,some (.box [.sl false 1 lr LR,.sl false 1 n LB,.sl false 1 lt LT]))]⟩) (fun i=>i≤n) (fun i=>n - i) 0 ?_ (Nat.zero_le _)
 intro i hi
 rcases Nat.lt_or_ge i n with hlt2|hge
 ·obtain⟨u0,l0,e0,z0⟩:=hpt i hlt2
  have z1:=hpb i hlt2
  have a1:=hbk _ (hts i hlt2)
  have a2:=hcm _ (hts i hlt2)
  have a3:=hrun _ (hts i hlt2)
  have a4:=hyes i hlt2
  rw [e0] at a1 a2 a3 a4
  rw [ak_,show fa_ l0=D.sl false 2 l0.length (ae_ l0) from rfl] at a1 a2 a3
  have pK:=pT l0
  generalize (if rightE RK (.node u0 l0)=0 then a0_ A (.node u0 l0) else 0)=st at*
  generalize rightE RK (.node u0 l0)=re at*
  clear hts hrun hyes hbk hcm hpt hpb hsm htr
  generalize ae_ l0=KL at*
  generalize l0.length=ll at*
  cases hb:IS.getD i false with
  |false=>
   rw [hb] at z1
   clear a4
   refine DW.walk ?_
   exact⟨i+1,by omega,by omega,Sub.auto⟩
  |true=>
   rw [hb] at z1
   obtain⟨rfl,rfl⟩:=a4 hb
   clear a4
   refine DW.walk ?_
   exact⟨i+1,by omega,by omega,Sub.auto⟩
 ·obtain rfl:n=i:=by omega
  clear hts hrun hyes hbk hcm hpt hpb hsm htr
  refine DW.walk ?_
  exact⟨.inr rfl,ResOk.one [] rfl rfl trivial (Vw.pers rfl)⟩
theorem rz_ (A:Au):DFun Try.prog 10 [auD A] (.flat (.bool true)):=by
 cases hr:i7_ A with
 |false=>exact uo_ A hr
 |true=>exact tn_ A hr
end Go.Proofs.Ytichhfbkhnimmaa
