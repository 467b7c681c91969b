/- The reference: the smallest trees. No condition. -/
import Derived.Test.YtichhfbkhnimmaaVBS1
import Derived.Test.YtichhfbkhnimmaaVBS2
set_option linter.unusedSimpArgs false
set_option linter.unusedVariables false
set_option maxHeartbeats 4000000
set_option maxRecDepth 8000
namespace Go.Proofs.Ytichhfbkhnimmaa
open Go Go.RowKit Go.PP Go.Dm Go.Rt Go.Mn
theorem adg {cc:Code} (hsel:selC [1,1,1,0,1,2,2,1,2,1,1,2,2] hd_=some cc) (A:Au) (hok:AuOk A) (T0:List Tr) (I0:List Bool) (y:Nat) (hy:y<A.r.length) (TL:List Tr) (IS:List Bool) (b:Bool) (h:RSt A T0 I0 TL IS b y 0):
  DW Try.prog 134 cc ⟨[(1,.ref 1 0),(4,.flat (.int .i64 ((A.f.length:Nat):Int))),(5,.own 1717986918400005 A.f.length),(6,.own 1717986918400006 A.f.length),(7,.flat (.bool b)),(8,.flat (.int .i64 ((y:Nat):Int)))],[(1,some (.box [.sl false 1 A.r.length (A.r.map fun x=>D.flat (.int .i64 x)),.sl false 1 A.f.length (A.f.map fun x=>D.flat (.bool x)),.sl false 1 A.to.length (aj_ A.to)])),(1717986918400005,some (.row 74 2 A.f.length (ae_ TL))),(1717986918400006,some (.row 4 1 A.f.length (bC IS)))]⟩ (fun e s'=> ∃ (T1:List Tr) (I1:List Bool) (b1:Bool),RSt A T0 I0 T1 I1 b1 (y+1) 0∧Nm 134 ⟨[(1,.ref 1 0),(4,.flat (.int .i64 ((A.f.length:Nat):Int))),(5,.own 1717986918400005 A.f.length),(6,.own 1717986918400006 A.f.length),(7,.flat (.bool b1)),(8,.flat (.int .i64 (((y+1):Nat):Int)))],[(1,some (.box [.sl false 1 A.r.length (A.r.map fun x=>D.flat (.int .i64 x)),.sl false 1 A.f.length (A.f.map fun x=>D.flat (.bool x)),.sl false 1 A.to.length (aj_ A.to)])),(1717986918400005,some (.row 74 2 A.f.length (ae_ T1))),(1717986918400006,some (.row 4 1 A.f.length (bC I1)))]⟩ e s'):=by
 obtain⟨r1,r2⟩:=bg_ hok hy
 rcases (show rankN A y=0∨rankN A y=1∨rankN A y=2 by omega) with hk|hk|hk
 ·exact zw_ hsel A hok T0 I0 y hy hk TL IS b h
 ·exact aah hsel A hok T0 I0 y hy hk TL IS b h
 ·exact aao hsel A hok T0 I0 y hy hk TL IS b h
theorem xr_ {cc:Code} (hsel:selC [1,1,1,0,1,2,2] hd_=some cc) (A:Au) (hok:AuOk A) (TL:List Tr) (IS:List Bool) (h:RIn A TL IS):
  DW Try.prog 134 cc ⟨[(1,.ref 1 0),(4,.flat (.int .i64 ((A.f.length:Nat):Int))),(5,.own 1717986918400005 A.f.length),(6,.own 1717986918400006 A.f.length),(7,.flat (.bool true))],[(1,some (.box [.sl false 1 A.r.length (A.r.map fun x=>D.flat (.int .i64 x)),.sl false 1 A.f.length (A.f.map fun x=>D.flat (.bool x)),.sl false 1 A.to.length (aj_ A.to)])),(1717986918400005,some (.row 74 2 A.f.length (ae_ TL))),(1717986918400006,some (.row 4 1 A.f.length (bC IS)))]⟩ (fun e s'=> ∃ (T1:List Tr) (I1:List Bool) (b1:Bool),RSt A TL IS T1 I1 b1 A.r.length 0∧Nm 134 ⟨[(1,.ref 1 0),(4,.flat (.int .i64 ((A.f.length:Nat):Int))),(5,.own 1717986918400005 A.f.length),(6,.own 1717986918400006 A.f.length),(7,.flat (.bool b1))],[(1,some (.box [.sl false 1 A.r.length (A.r.map fun x=>D.flat (.int .i64 x)),.sl false 1 A.f.length (A.f.map fun x=>D.flat (.bool x)),.sl false 1 A.to.length (aj_ A.to)])),(1717986918400005,some (.row 74 2 A.f.length (ae_ T1))),(1717986918400006,some (.row 4 1 A.f.length (bC I1)))]⟩ e s'):=by
 have hrow:=fun (cc:Code) (hs:selC [1,1,1,0,1,2,2,1,2,1,1,2,2] hd_=some cc) y hy T1 I1 b h=>adg hs A hok TL IS y hy T1 I1 b h
 have h0:=vh_ h
 have hll:=hok.alpha.hi
 have hnn:=hok.hi
 have q1:=ab_ A.r
 have q2:=al_ A.f
 have q3:=ao_ A.to
 have pT:=ah_
 have pI:∀ l:List Bool,persL (bC l)=true:=al_
 generalize (A.r.map fun x=>D.flat (.int .i64 x))=LR at*
 generalize (A.f.map fun x=>D.flat (.bool x))=LB at*
 generalize aj_ A.to=LT at*
 generalize A.r.length=lr at*
 generalize A.f.length=n at*
 generalize A.to.length=lt at*
 have p3:=pT TL
 have p4:=pI IS
 refine DW.sel hsel (by rfl) ?_
 generalize hKK:ae_ TL=K0 at*
 generalize hBB:bC IS=B0 at*
 refine DW.walk ?_
 rw [← hKK,← hBB]
 clear hKK hBB
 refine DW.loopA (fun x:Nat × List Tr × List Bool × Bool=>⟨[(1,.ref 1 0),(4,.flat (.int .i64 ((n:Nat):Int))),(5,.own 1717986918400005 n),(6,.own 1717986918400006 n),(7,.flat (.bool x.2.2.2)),(8,.flat (.int .i64 ((x.1:Nat):Int)))],[(1,some (.box [.sl false 1 lr LR,.sl false 1 n LB,.sl false 1 lt LT])),(1717986918400005,some (.row 74 2 n (ae_ x.2.1))),(1717986918400006,some (.row 4 1 n (bC x.2.2.1)))]⟩) (fun x=>x.1≤lr∧RSt A TL IS x.2.1 x.2.2.1 x.2.2.2 x.1 0) (fun x=>lr - x.1) (0,TL,IS,false) ?_ ⟨Nat.zero_le _,h0⟩ (by have z1:=pT TL;have z2:=pI IS;show Sub _ _ ⟨[(1,.ref 1 0),(4,.flat (.int .i64 ((n:Nat):Int))),(5,.own 1717986918400005 n),(6,.own 1717986918400006 n),(7,.flat (.bool false)),(8,.flat (.int .i64 ((0:Nat):Int)))],[(1,some (.box [.sl false 1 lr LR,.sl false 1 n LB,.sl false 1 lt LT])),(1717986918400005,some (.row 74 2 n (ae_ TL))),(1717986918400006,some (.row 4 1 n (bC IS)))]⟩;generalize ae_ TL=K0 at *;generalize bC IS=B0 at *;exact Sub.auto)
 rintro⟨y,T1,I1,b1⟩ ⟨hy,h1⟩
 simp only at hy h1
 have z1:=pT T1
 have z2:=pI I1
 rcases Nat.lt_or_ge y lr with hlt2|hge
 ·refine (hrow _ (by rfl) y hlt2 T1 I1 b1 h1).mono ?_
  rintro e s' ⟨T3,I3,b3,h3,rfl,hsub⟩
  exact⟨(y+1,T3,I3,b3),⟨by show y+1≤lr;omega,h3⟩,by show lr - (y+1)<lr - y;omega,hsub⟩
 ·obtain rfl:y=lr:=by omega
  show DW _ _ _ ⟨[(1,.ref 1 0),(4,.flat (.int .i64 ((n:Nat):Int))),(5,.own 1717986918400005 n),(6,.own 1717986918400006 n),(7,.flat (.bool b1)),(8,.flat (.int .i64 ((y:Nat):Int)))],[(1,some (.box [.sl false 1 y LR,.sl false 1 n LB,.sl false 1 lt LT])),(1717986918400005,some (.row 74 2 n (ae_ T1))),(1717986918400006,some (.row 4 1 n (bC I1)))]⟩ _
  clear hrow
  generalize hKK:ae_ T1=K0 at*
  generalize hBB:bC I1=B0 at*
  refine DW.walk ?_
  refine⟨T1,I1,b1,h1,?_⟩
  rw [hKK,hBB]
  exact Nm.mk Sub.auto
theorem yu_ (A:Au) (hk:chk A=0) (d:D) (hd:∀ TL IS,SmOk A TL IS→d= .tup [.sl false 2 A.f.length (ae_ TL),.sl false 1 A.f.length (bC IS)]):DFun Try.prog 43 [auD A] d:=by
 have hok:=a6_ hk
 have hrd:=fun (cc:Code) (hs:selC [1,1,1,0,1,2,2] hd_=some cc) TL IS h=>xr_ hs A hok TL IS h
 have h0:=ut_ A
 have hend:=fun (T0 TL:List Tr) (I0 IS:List Bool) (h:RSt A T0 I0 TL IS false A.r.length 0)=>x6_ hok h
 have hnn:=hok.hi
 have q1:=ab_ A.r
 have q2:=al_ A.f
 have q3:=ao_ A.to
 have pT:=ah_
 have pI:∀ l:List Bool,persL (bC l)=true:=al_
 have hbz:List.replicate A.f.length (D.flat (.bool false))=bC (List.replicate A.f.length false):=by simp
 have i18:=IdAt.of 18 1717986918400006
 have hnn2:A.f.length≤1000000:=by omega
 rw [a1_ A]
 generalize (A.r.map fun x=>D.flat (.int .i64 x))=LR at*
 generalize (A.f.map fun x=>D.flat (.bool x))=LB at*
 generalize aj_ A.to=LT at*
 generalize A.r.length=lr at*
 generalize A.f.length=n at*
 generalize A.to.length=lt at*
 generalize hKZ:ae_ (List.replicate n (.node 0 []))=KZ at*
 refine DFun.enterA Try.func43 Try.ntmps43 ?_
 refine DW.walkTo 2 ?_
 refine DW.regD rfl (by kernel_rfl) ?_
 refine DC.walk ?_
 refine DC.t (t5_ 1717986918400005 72 _ _ Try.underlying72 (by kernel_rfl) hnn2 (by decide +kernel)) ⟨rfl,rfl,trivial⟩ ⟨rfl,trivial⟩ ?_
 refine DC.walkTo 3 ?_
 rw [hbz,hKZ]
 have qT:=pT (List.replicate n (.node 0 []))
 have qI:=pI (List.replicate n false)
 rw [hKZ] at qT
 generalize hBZ:bC (List.replicate n false)=BZ at*
 refine DW.walk ?_
 rw [← hKZ,← hBZ]
 refine DW.loopA (fun x:List Tr × List Bool × Bool=>⟨[(1,.ref 1 0),(4,.flat (.int .i64 ((n:Nat):Int))),(5,.own 1717986918400005 n),(6,.own 1717986918400006 n),(7,.flat (.bool x.2.2))],[(1,some (.box [.sl false 1 lr LR,.sl false 1 n LB,.sl false 1 lt LT])),(1717986918400005,some (.row 74 2 n (ae_ x.1))),(1717986918400006,some (.row 4 1 n (bC x.2.1)))]⟩) (fun x=>RIn A x.1 x.2.1∧(x.2.2=false→SmOk A x.1 x.2.1)) (fun x=>jm_ A x.1 x.2.1*2+(if x.2.2 then 1 else 0)) (List.replicate n (.node 0 []),List.replicate n false,true) ?_ ⟨h0,(fun h=>by cases h)⟩ (by show Sub _ _ ⟨[(1,.ref 1 0),(4,.flat (.int .i64 ((n:Nat):Int))),(5,.own 1717986918400005 n),(6,.own 1717986918400006 n),(7,.flat (.bool true))],[(1,some (.box [.sl false 1 lr LR,.sl false 1 n LB,.sl false 1 lt LT])),(1717986918400005,some (.row 74 2 n (ae_ (List.replicate n (.node 0 []))))),(1717986918400006,some (.row 4 1 n (bC (List.replicate n false))))]⟩;rw [hKZ,hBZ];exact Sub.auto)
 rintro⟨TL,IS,b⟩ ⟨h1,h2⟩
 simp only at h1 h2
 cases b with
 |true   =>
  refine (hrd _ (by rfl) TL IS h1).mono ?_
  rintro e s' ⟨T3,I3,b3,h3,rfl,hsub⟩
  refine⟨(T3,I3,b3),⟨h3.in_,fun hb=>?_⟩,?_,hsub⟩
  ·simp only at hb
   subst hb
   exact hend _ _ _ _ h3
  ·cases b3 with
   |    true=>
        have:=h3.less rfl
        show jm_ A T3 I3*2+1<jm_ A TL IS*2+1
        omega
   |    false=>
        obtain⟨e1,e2,_⟩:=h3.same rfl
        show jm_ A T3 I3*2+0<jm_ A TL IS*2+1
        rw [e1,e2];omega
 |false=>
  have h3:=hd TL IS (h2 rfl)
  subst h3
  have p0:=pT TL
  have p1:=pI IS
  show DW _ _ _ ⟨[(1,.ref 1 0),(4,.flat (.int .i64 ((n:Nat):Int))),(5,.own 1717986918400005 n),(6,.own 1717986918400006 n),(7,.flat (.bool false))],[(1,some (.box [.sl false 1 lr LR,.sl false 1 n LB,.sl false 1 lt LT])),(1717986918400005,some (.row 74 2 n (ae_ TL))),(1717986918400006,some (.row 4 1 n (bC IS)))]⟩ _
  clear hrd hend pT pI hd h1 h2 hKZ hBZ
  generalize ae_ TL=K1 at*
  generalize bC IS=B1 at*
  refine DW.walk ?_
  exact⟨.inr rfl,ResOk.two [(1717986918400005,some (.row 74 2 n K1)),(1717986918400006,some (.row 4 1 n B1))] rfl rfl rfl ⟨rfl,rfl,trivial⟩ (Vw.own (.head _) (VwL.pers p0)) (Vw.own (.tail _ (.head _)) (VwL.pers p1))⟩
end Go.Proofs.Ytichhfbkhnimmaa
