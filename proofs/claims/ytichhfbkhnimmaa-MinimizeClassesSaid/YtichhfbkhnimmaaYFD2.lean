/- The table of distances: rows and rounds at 5 states. No condition. -/
import Derived.Test.YtichhfbkhnimmaaYFB6
import Derived.Test.YtichhfbkhnimmaaYFA3
import Derived.Test.YtichhfbkhnimmaaYPR1
set_option linter.unusedSimpArgs false
set_option linter.unusedVariables false
set_option maxHeartbeats 4000000
set_option maxRecDepth 8000
namespace Go.Proofs.Ytichhfbkhnimmaa
open Go Go.RowKit Go.PP Go.Dm Go.Rt Go.Mn
theorem far_p5 {cc:Code} (hsel:selC [1,1,1,1,1,0,1,2,2,1,0,2,1,2,2] code51=some cc) (A:Au) (hok:AuOk A) (r p:Nat) (hN:A.final.length=5) (hr:r<A.final.length) (hp:p<A.final.length) (hm:(stepsA A).length≤5000000):
  DW Try.prog 118 cc ⟨[(1,.ref 1 0),(3,.flat (.int .i64 ((A.final.length:Nat):Int))),(4,.own 16 A.final.length),(7,.sl false 3 (stepsA A).length (spC (stepsA A))),(8,.flat (.int .i64 ((r:Nat):Int))),(9,.flat (.int .i64 ((p:Nat):Int)))],[(1,some (.box [.sl false 1 A.ranks.length (A.ranks.map fun x=>D.flat (.int .i64 x)),.sl false 1 A.final.length (A.final.map fun x=>D.flat (.bool x)),.sl false 1 A.to.length (rowsL A.to)])),(16,some (.row 22 1 A.final.length [.own 801 A.final.length,.own 802 A.final.length,.own 803 A.final.length,.own 804 A.final.length,.own 805 A.final.length])),(801,some (.row 3 1 A.final.length (mrow (MR A r p 0) A.final.length 0))),(802,some (.row 3 1 A.final.length (mrow (MR A r p 0) A.final.length 1))),(803,some (.row 3 1 A.final.length (mrow (MR A r p 0) A.final.length 2))),(804,some (.row 3 1 A.final.length (mrow (MR A r p 0) A.final.length 3))),(805,some (.row 3 1 A.final.length (mrow (MR A r p 0) A.final.length 4)))]⟩ (Nm 118 ⟨[(1,.ref 1 0),(3,.flat (.int .i64 ((A.final.length:Nat):Int))),(4,.own 16 A.final.length),(7,.sl false 3 (stepsA A).length (spC (stepsA A))),(8,.flat (.int .i64 ((r:Nat):Int))),(9,.flat (.int .i64 (((p+1):Nat):Int)))],[(1,some (.box [.sl false 1 A.ranks.length (A.ranks.map fun x=>D.flat (.int .i64 x)),.sl false 1 A.final.length (A.final.map fun x=>D.flat (.bool x)),.sl false 1 A.to.length (rowsL A.to)])),(16,some (.row 22 1 A.final.length [.own 801 A.final.length,.own 802 A.final.length,.own 803 A.final.length,.own 804 A.final.length,.own 805 A.final.length])),(801,some (.row 3 1 A.final.length (mrow (MR A r (p+1) 0) A.final.length 0))),(802,some (.row 3 1 A.final.length (mrow (MR A r (p+1) 0) A.final.length 1))),(803,some (.row 3 1 A.final.length (mrow (MR A r (p+1) 0) A.final.length 2))),(804,some (.row 3 1 A.final.length (mrow (MR A r (p+1) 0) A.final.length 3))),(805,some (.row 3 1 A.final.length (mrow (MR A r (p+1) 0) A.final.length 4)))]⟩):=by
 have q1:=pers_i A.ranks
 have q2:=pers_b A.final
 have q3:=pers_r A.to
 have q4:=spC_pers (stepsA A)
 have hfq:=fun (cc:Code) (h:selC [1,1,1,1,1,0,1,2,2,1,0,2,1,2,2,1,0,2,1,2,2] code51=some cc) (q:Nat) (hq:q<A.final.length)=>far_q5 h A hok r p q hN hr hp hq hm
 have hrw:=fun i=>MR_row A r p A.final.length i
 generalize (A.ranks.map fun x=>D.flat (.int .i64 x))=LR at*
 generalize (A.final.map fun x=>D.flat (.bool x))=LB at*
 generalize rowsL A.to=LT at*
 generalize spC (stepsA A)=SC at*
 generalize A.ranks.length=rl at*
 generalize A.final.length=n at*
 generalize A.to.length=ta at*
 generalize (stepsA A).length=m at*
 refine DW.sel hsel (by rfl) ?_
 have y0:=mrow_pers (MR A r p 0) n 0
 have y1:=mrow_pers (MR A r p 0) n 1
 have y2:=mrow_pers (MR A r p 0) n 2
 have y3:=mrow_pers (MR A r p 0) n 3
 have y4:=mrow_pers (MR A r p 0) n 4
 refine DW.walk ?_
 refine DW.loopA (fun q:Nat=>⟨[(1,.ref 1 0),(3,.flat (.int .i64 ((n:Nat):Int))),(4,.own 16 n),(7,.sl false 3 m SC),(8,.flat (.int .i64 ((r:Nat):Int))),(9,.flat (.int .i64 ((p:Nat):Int))),(10,.flat (.int .i64 ((q:Nat):Int)))],[(1,some (.box [.sl false 1 rl LR,.sl false 1 n LB,.sl false 1 ta LT])),(16,some (.row 22 1 n [.own 801 n,.own 802 n,.own 803 n,.own 804 n,.own 805 n])),(801,some (.row 3 1 n (mrow (MR A r p q) n 0))),(802,some (.row 3 1 n (mrow (MR A r p q) n 1))),(803,some (.row 3 1 n (mrow (MR A r p q) n 2))),(804,some (.row 3 1 n (mrow (MR A r p q) n 3))),(805,some (.row 3 1 n (mrow (MR A r p q) n 4)))]⟩) (fun q=>q≤n) (fun q=>n - q) 0 ?_ (Nat.zero_le _)
 intro q hq
 rcases Nat.lt_or_ge q n with hlt|hge
 ·refine (hfq _ (by rfl) q hlt).mono ?_
  rintro e s' ⟨rfl,hsub⟩
  exact⟨q+1,by omega,by omega,hsub⟩
 ·obtain rfl:n=q:=by omega
  rw [hrw 0,hrw 1,hrw 2,hrw 3,hrw 4]
  clear hfq hrw
  have y0:=mrow_pers (MR A r (p+1) 0) n 0
  have y1:=mrow_pers (MR A r (p+1) 0) n 1
  have y2:=mrow_pers (MR A r (p+1) 0) n 2
  have y3:=mrow_pers (MR A r (p+1) 0) n 3
  have y4:=mrow_pers (MR A r (p+1) 0) n 4
  generalize mrow (MR A r (p+1) 0) n 0=R0 at*
  generalize mrow (MR A r (p+1) 0) n 1=R1 at*
  generalize mrow (MR A r (p+1) 0) n 2=R2 at*
  generalize mrow (MR A r (p+1) 0) n 3=R3 at*
  generalize mrow (MR A r (p+1) 0) n 4=R4 at*
  refine DW.walk ?_
  exact Nm.mk Sub.auto
theorem far_r5 {cc:Code} (hsel:selC [1,1,1,1,1,0,1,2,2] code51=some cc) (A:Au) (hok:AuOk A) (r:Nat) (hN:A.final.length=5) (hr:r<A.final.length) (hm:(stepsA A).length≤5000000):
  DW Try.prog 118 cc ⟨[(1,.ref 1 0),(3,.flat (.int .i64 ((A.final.length:Nat):Int))),(4,.own 16 A.final.length),(7,.sl false 3 (stepsA A).length (spC (stepsA A))),(8,.flat (.int .i64 ((r:Nat):Int)))],[(1,some (.box [.sl false 1 A.ranks.length (A.ranks.map fun x=>D.flat (.int .i64 x)),.sl false 1 A.final.length (A.final.map fun x=>D.flat (.bool x)),.sl false 1 A.to.length (rowsL A.to)])),(16,some (.row 22 1 A.final.length [.own 801 A.final.length,.own 802 A.final.length,.own 803 A.final.length,.own 804 A.final.length,.own 805 A.final.length])),(801,some (.row 3 1 A.final.length (mrow (MR A r 0 0) A.final.length 0))),(802,some (.row 3 1 A.final.length (mrow (MR A r 0 0) A.final.length 1))),(803,some (.row 3 1 A.final.length (mrow (MR A r 0 0) A.final.length 2))),(804,some (.row 3 1 A.final.length (mrow (MR A r 0 0) A.final.length 3))),(805,some (.row 3 1 A.final.length (mrow (MR A r 0 0) A.final.length 4)))]⟩ (Nm 118 ⟨[(1,.ref 1 0),(3,.flat (.int .i64 ((A.final.length:Nat):Int))),(4,.own 16 A.final.length),(7,.sl false 3 (stepsA A).length (spC (stepsA A))),(8,.flat (.int .i64 (((r+1):Nat):Int)))],[(1,some (.box [.sl false 1 A.ranks.length (A.ranks.map fun x=>D.flat (.int .i64 x)),.sl false 1 A.final.length (A.final.map fun x=>D.flat (.bool x)),.sl false 1 A.to.length (rowsL A.to)])),(16,some (.row 22 1 A.final.length [.own 801 A.final.length,.own 802 A.final.length,.own 803 A.final.length,.own 804 A.final.length,.own 805 A.final.length])),(801,some (.row 3 1 A.final.length (mrow (MR A (r+1) 0 0) A.final.length 0))),(802,some (.row 3 1 A.final.length (mrow (MR A (r+1) 0 0) A.final.length 1))),(803,some (.row 3 1 A.final.length (mrow (MR A (r+1) 0 0) A.final.length 2))),(804,some (.row 3 1 A.final.length (mrow (MR A (r+1) 0 0) A.final.length 3))),(805,some (.row 3 1 A.final.length (mrow (MR A (r+1) 0 0) A.final.length 4)))]⟩):=by
 have q1:=pers_i A.ranks
 have q2:=pers_b A.final
 have q3:=pers_r A.to
 have q4:=spC_pers (stepsA A)
 have hfp:=fun (cc:Code) (h:selC [1,1,1,1,1,0,1,2,2,1,0,2,1,2,2] code51=some cc) (p:Nat) (hp:p<A.final.length)=>far_p5 h A hok r p hN hr hp hm
 have hrw:=fun i (h:i<A.final.length)=>MR_all A r A.final.length h
 generalize (A.ranks.map fun x=>D.flat (.int .i64 x))=LR at*
 generalize (A.final.map fun x=>D.flat (.bool x))=LB at*
 generalize rowsL A.to=LT at*
 generalize spC (stepsA A)=SC at*
 generalize A.ranks.length=rl at*
 generalize A.final.length=n at*
 generalize A.to.length=ta at*
 generalize (stepsA A).length=m at*
 refine DW.sel hsel (by rfl) ?_
 have y0:=mrow_pers (MR A r 0 0) n 0
 have y1:=mrow_pers (MR A r 0 0) n 1
 have y2:=mrow_pers (MR A r 0 0) n 2
 have y3:=mrow_pers (MR A r 0 0) n 3
 have y4:=mrow_pers (MR A r 0 0) n 4
 refine DW.walk ?_
 refine DW.loopA (fun p:Nat=>⟨[(1,.ref 1 0),(3,.flat (.int .i64 ((n:Nat):Int))),(4,.own 16 n),(7,.sl false 3 m SC),(8,.flat (.int .i64 ((r:Nat):Int))),(9,.flat (.int .i64 ((p:Nat):Int)))],[(1,some (.box [.sl false 1 rl LR,.sl false 1 n LB,.sl false 1 ta LT])),(16,some (.row 22 1 n [.own 801 n,.own 802 n,.own 803 n,.own 804 n,.own 805 n])),(801,some (.row 3 1 n (mrow (MR A r p 0) n 0))),(802,some (.row 3 1 n (mrow (MR A r p 0) n 1))),(803,some (.row 3 1 n (mrow (MR A r p 0) n 2))),(804,some (.row 3 1 n (mrow (MR A r p 0) n 3))),(805,some (.row 3 1 n (mrow (MR A r p 0) n 4)))]⟩) (fun p=>p≤n) (fun p=>n - p) 0 ?_ (Nat.zero_le _)
 intro p hp
 rcases Nat.lt_or_ge p n with hlt|hge
 ·refine (hfp _ (by rfl) p hlt).mono ?_
  rintro e s' ⟨rfl,hsub⟩
  exact⟨p+1,by omega,by omega,hsub⟩
 ·obtain rfl:n=p:=by omega
  rw [hrw 0 (by omega),hrw 1 (by omega),hrw 2 (by omega),hrw 3 (by omega),hrw 4 (by omega)]
  clear hfp hrw
  have y0:=mrow_pers (MR A (r+1) 0 0) n 0
  have y1:=mrow_pers (MR A (r+1) 0 0) n 1
  have y2:=mrow_pers (MR A (r+1) 0 0) n 2
  have y3:=mrow_pers (MR A (r+1) 0 0) n 3
  have y4:=mrow_pers (MR A (r+1) 0 0) n 4
  generalize mrow (MR A (r+1) 0 0) n 0=R0 at*
  generalize mrow (MR A (r+1) 0 0) n 1=R1 at*
  generalize mrow (MR A (r+1) 0 0) n 2=R2 at*
  generalize mrow (MR A (r+1) 0 0) n 3=R3 at*
  generalize mrow (MR A (r+1) 0 0) n 4=R4 at*
  refine DW.walk ?_
  exact Nm.mk Sub.auto
theorem far_p6 {cc:Code} (hsel:selC [1,1,1,1,1,0,1,2,2,1,0,2,1,2,2] code51=some cc) (A:Au) (hok:AuOk A) (r p:Nat) (hN:A.final.length=6) (hr:r<A.final.length) (hp:p<A.final.length) (hm:(stepsA A).length≤5000000):
  DW Try.prog 118 cc ⟨[(1,.ref 1 0),(3,.flat (.int .i64 ((A.final.length:Nat):Int))),(4,.own 16 A.final.length),(7,.sl false 3 (stepsA A).length (spC (stepsA A))),(8,.flat (.int .i64 ((r:Nat):Int))),(9,.flat (.int .i64 ((p:Nat):Int)))],[(1,some (.box [.sl false 1 A.ranks.length (A.ranks.map fun x=>D.flat (.int .i64 x)),.sl false 1 A.final.length (A.final.map fun x=>D.flat (.bool x)),.sl false 1 A.to.length (rowsL A.to)])),(16,some (.row 22 1 A.final.length [.own 801 A.final.length,.own 802 A.final.length,.own 803 A.final.length,.own 804 A.final.length,.own 805 A.final.length,.own 806 A.final.length])),(801,some (.row 3 1 A.final.length (mrow (MR A r p 0) A.final.length 0))),(802,some (.row 3 1 A.final.length (mrow (MR A r p 0) A.final.length 1))),(803,some (.row 3 1 A.final.length (mrow (MR A r p 0) A.final.length 2))),(804,some (.row 3 1 A.final.length (mrow (MR A r p 0) A.final.length 3))),(805,some (.row 3 1 A.final.length (mrow (MR A r p 0) A.final.length 4))),(806,some (.row 3 1 A.final.length (mrow (MR A r p 0) A.final.length 5)))]⟩ (Nm 118 ⟨[(1,.ref 1 0),(3,.flat (.int .i64 ((A.final.length:Nat):Int))),(4,.own 16 A.final.length),(7,.sl false 3 (stepsA A).length (spC (stepsA A))),(8,.flat (.int .i64 ((r:Nat):Int))),(9,.flat (.int .i64 (((p+1):Nat):Int)))],[(1,some (.box [.sl false 1 A.ranks.length (A.ranks.map fun x=>D.flat (.int .i64 x)),.sl false 1 A.final.length (A.final.map fun x=>D.flat (.bool x)),.sl false 1 A.to.length (rowsL A.to)])),(16,some (.row 22 1 A.final.length [.own 801 A.final.length,.own 802 A.final.length,.own 803 A.final.length,.own 804 A.final.length,.own 805 A.final.length,.own 806 A.final.length])),(801,some (.row 3 1 A.final.length (mrow (MR A r (p+1) 0) A.final.length 0))),(802,some (.row 3 1 A.final.length (mrow (MR A r (p+1) 0) A.final.length 1))),(803,some (.row 3 1 A.final.length (mrow (MR A r (p+1) 0) A.final.length 2))),(804,some (.row 3 1 A.final.length (mrow (MR A r (p+1) 0) A.final.length 3))),(805,some (.row 3 1 A.final.length (mrow (MR A r (p+1) 0) A.final.length 4))),(806,some (.row 3 1 A.final.length (mrow (MR A r (p+1) 0) A.final.length 5)))]⟩):=by
 have q1:=pers_i A.ranks
 have q2:=pers_b A.final
 have q3:=pers_r A.to
 have q4:=spC_pers (stepsA A)
 have hfq:=fun (cc:Code) (h:selC [1,1,1,1,1,0,1,2,2,1,0,2,1,2,2,1,0,2,1,2,2] code51=some cc) (q:Nat) (hq:q<A.final.length)=>far_q6 h A hok r p q hN hr hp hq hm
 have hrw:=fun i=>MR_row A r p A.final.length i
 generalize (A.ranks.map fun x=>D.flat (.int .i64 x))=LR at*
 generalize (A.final.map fun x=>D.flat (.bool x))=LB at*
 generalize rowsL A.to=LT at*
 generalize spC (stepsA A)=SC at*
 generalize A.ranks.length=rl at*
 generalize A.final.length=n at*
 generalize A.to.length=ta at*
 generalize (stepsA A).length=m at*
 refine DW.sel hsel (by rfl) ?_
 have y0:=mrow_pers (MR A r p 0) n 0
 have y1:=mrow_pers (MR A r p 0) n 1
 have y2:=mrow_pers (MR A r p 0) n 2
 have y3:=mrow_pers (MR A r p 0) n 3
 have y4:=mrow_pers (MR A r p 0) n 4
 have y5:=mrow_pers (MR A r p 0) n 5
 refine DW.walk ?_
 refine DW.loopA (fun q:Nat=>⟨[(1,.ref 1 0),(3,.flat (.int .i64 ((n:Nat):Int))),(4,.own 16 n),(7,.sl false 3 m SC),(8,.flat (.int .i64 ((r:Nat):Int))),(9,.flat (.int .i64 ((p:Nat):Int))),(10,.flat (.int .i64 ((q:Nat):Int)))],[(1,some (.box [.sl false 1 rl LR,.sl false 1 n LB,.sl false 1 ta LT])),(16,some (.row 22 1 n [.own 801 n,.own 802 n,.own 803 n,.own 804 n,.own 805 n,.own 806 n])),(801,some (.row 3 1 n (mrow (MR A r p q) n 0))),(802,some (.row 3 1 n (mrow (MR A r p q) n 1))),(803,some (.row 3 1 n (mrow (MR A r p q) n 2))),(804,some (.row 3 1 n (mrow (MR A r p q) n 3))),(805,some (.row 3 1 n (mrow (MR A r p q) n 4))),(806,some (.row 3 1 n (mrow (MR A r p q) n 5)))]⟩) (fun q=>q≤n) (fun q=>n - q) 0 ?_ (Nat.zero_le _)
 intro q hq
 rcases Nat.lt_or_ge q n with hlt|hge
 ·refine (hfq _ (by rfl) q hlt).mono ?_
  rintro e s' ⟨rfl,hsub⟩
  exact⟨q+1,by omega,by omega,hsub⟩
 ·obtain rfl:n=q:=by omega
  rw [hrw 0,hrw 1,hrw 2,hrw 3,hrw 4,hrw 5]
  clear hfq hrw
  have y0:=mrow_pers (MR A r (p+1) 0) n 0
  have y1:=mrow_pers (MR A r (p+1) 0) n 1
  have y2:=mrow_pers (MR A r (p+1) 0) n 2
  have y3:=mrow_pers (MR A r (p+1) 0) n 3
  have y4:=mrow_pers (MR A r (p+1) 0) n 4
  have y5:=mrow_pers (MR A r (p+1) 0) n 5
  generalize mrow (MR A r (p+1) 0) n 0=R0 at*
  generalize mrow (MR A r (p+1) 0) n 1=R1 at*
  generalize mrow (MR A r (p+1) 0) n 2=R2 at*
  generalize mrow (MR A r (p+1) 0) n 3=R3 at*
  generalize mrow (MR A r (p+1) 0) n 4=R4 at*
  generalize mrow (MR A r (p+1) 0) n 5=R5 at*
  refine DW.walk ?_
  exact Nm.mk Sub.auto
theorem far_r6 {cc:Code} (hsel:selC [1,1,1,1,1,0,1,2,2] code51=some cc) (A:Au) (hok:AuOk A) (r:Nat) (hN:A.final.length=6) (hr:r<A.final.length) (hm:(stepsA A).length≤5000000):
  DW Try.prog 118 cc ⟨[(1,.ref 1 0),(3,.flat (.int .i64 ((A.final.length:Nat):Int))),(4,.own 16 A.final.length),(7,.sl false 3 (stepsA A).length (spC (stepsA A))),(8,.flat (.int .i64 ((r:Nat):Int)))],[(1,some (.box [.sl false 1 A.ranks.length (A.ranks.map fun x=>D.flat (.int .i64 x)),.sl false 1 A.final.length (A.final.map fun x=>D.flat (.bool x)),.sl false 1 A.to.length (rowsL A.to)])),(16,some (.row 22 1 A.final.length [.own 801 A.final.length,.own 802 A.final.length,.own 803 A.final.length,.own 804 A.final.length,.own 805 A.final.length,.own 806 A.final.length])),(801,some (.row 3 1 A.final.length (mrow (MR A r 0 0) A.final.length 0))),(802,some (.row 3 1 A.final.length (mrow (MR A r 0 0) A.final.length 1))),(803,some (.row 3 1 A.final.length (mrow (MR A r 0 0) A.final.length 2))),(804,some (.row 3 1 A.final.length (mrow (MR A r 0 0) A.final.length 3))),(805,some (.row 3 1 A.final.length (mrow (MR A r 0 0) A.final.length 4))),(806,some (.row 3 1 A.final.length (mrow (MR A r 0 0) A.final.length 5)))]⟩ (Nm 118 ⟨[(1,.ref 1 0),(3,.flat (.int .i64 ((A.final.length:Nat):Int))),(4,.own 16 A.final.length),(7,.sl false 3 (stepsA A).length (spC (stepsA A))),(8,.flat (.int .i64 (((r+1):Nat):Int)))],[(1,some (.box [.sl false 1 A.ranks.length (A.ranks.map fun x=>D.flat (.int .i64 x)),.sl false 1 A.final.length (A.final.map fun x=>D.flat (.bool x)),.sl false 1 A.to.length (rowsL A.to)])),(16,some (.row 22 1 A.final.length [.own 801 A.final.length,.own 802 A.final.length,.own 803 A.final.length,.own 804 A.final.length,.own 805 A.final.length,.own 806 A.final.length])),(801,some (.row 3 1 A.final.length (mrow (MR A (r+1) 0 0) A.final.length 0))),(802,some (.row 3 1 A.final.length (mrow (MR A (r+1) 0 0) A.final.length 1))),(803,some (.row 3 1 A.final.length (mrow (MR A (r+1) 0 0) A.final.length 2))),(804,some (.row 3 1 A.final.length (mrow (MR A (r+1) 0 0) A.final.length 3))),(805,some (.row 3 1 A.final.length (mrow (MR A (r+1) 0 0) A.final.length 4))),(806,some (.row 3 1 A.final.length (mrow (MR A (r+1) 0 0) A.final.length 5)))]⟩):=by
 have q1:=pers_i A.ranks
 have q2:=pers_b A.final
 have q3:=pers_r A.to
 have q4:=spC_pers (stepsA A)
 have hfp:=fun (cc:Code) (h:selC [1,1,1,1,1,0,1,2,2,1,0,2,1,2,2] code51=some cc) (p:Nat) (hp:p<A.final.length)=>far_p6 h A hok r p hN hr hp hm
 have hrw:=fun i (h:i<A.final.length)=>MR_all A r A.final.length h
 generalize (A.ranks.map fun x=>D.flat (.int .i64 x))=LR at*
 generalize (A.final.map fun x=>D.flat (.bool x))=LB at*
 generalize rowsL A.to=LT at*
 generalize spC (stepsA A)=SC at*
 generalize A.ranks.length=rl at*
 generalize A.final.length=n at*
 generalize A.to.length=ta at*
 generalize (stepsA A).length=m at*
 refine DW.sel hsel (by rfl) ?_
 have y0:=mrow_pers (MR A r 0 0) n 0
 have y1:=mrow_pers (MR A r 0 0) n 1
 have y2:=mrow_pers (MR A r 0 0) n 2
 have y3:=mrow_pers (MR A r 0 0) n 3
 have y4:=mrow_pers (MR A r 0 0) n 4
 have y5:=mrow_pers (MR A r 0 0) n 5
 refine DW.walk ?_
 refine DW.loopA (fun p:Nat=>⟨[(1,.ref 1 0),(3,.flat (.int .i64 ((n:Nat):Int))),(4,.own 16 n),(7,.sl false 3 m SC),(8,.flat (.int .i64 ((r:Nat):Int))),(9,.flat (.int .i64 ((p:Nat):Int)))],[(1,some (.box [.sl false 1 rl LR,.sl false 1 n LB,.sl false 1 ta LT])),(16,some (.row 22 1 n [.own 801 n,.own 802 n,.own 803 n,.own 804 n,.own 805 n,.own 806 n])),(801,some (.row 3 1 n (mrow (MR A r p 0) n 0))),(802,some (.row 3 1 n (mrow (MR A r p 0) n 1))),(803,some (.row 3 1 n (mrow (MR A r p 0) n 2))),(804,some (.row 3 1 n (mrow (MR A r p 0) n 3))),(805,some (.row 3 1 n (mrow (MR A r p 0) n 4))),(806,some (.row 3 1 n (mrow (MR A r p 0) n 5)))]⟩) (fun p=>p≤n) (fun p=>n - p) 0 ?_ (Nat.zero_le _)
 intro p hp
 rcases Nat.lt_or_ge p n with hlt|hge
 ·refine (hfp _ (by rfl) p hlt).mono ?_
  rintro e s' ⟨rfl,hsub⟩
  exact⟨p+1,by omega,by omega,hsub⟩
 ·obtain rfl:n=p:=by omega
  rw [hrw 0 (by omega),hrw 1 (by omega),hrw 2 (by omega),hrw 3 (by omega),hrw 4 (by omega),hrw 5 (by omega)]
  clear hfp hrw
  have y0:=mrow_pers (MR A (r+1) 0 0) n 0
  have y1:=mrow_pers (MR A (r+1) 0 0) n 1
  have y2:=mrow_pers (MR A (r+1) 0 0) n 2
  have y3:=mrow_pers (MR A (r+1) 0 0) n 3
  have y4:=mrow_pers (MR A (r+1) 0 0) n 4
  have y5:=mrow_pers (MR A (r+1) 0 0) n 5
  generalize mrow (MR A (r+1) 0 0) n 0=R0 at*
  generalize mrow (MR A (r+1) 0 0) n 1=R1 at*
  generalize mrow (MR A (r+1) 0 0) n 2=R2 at*
  generalize mrow (MR A (r+1) 0 0) n 3=R3 at*
  generalize mrow (MR A (r+1) 0 0) n 4=R4 at*
  generalize mrow (MR A (r+1) 0 0) n 5=R5 at*
  refine DW.walk ?_
  exact Nm.mk Sub.auto
def xrow (A:Au) (n p q:Nat):List D:=(List.range n).map fun j=>if j<q then D.flat (.int .i64 (MR A 0 0 0 p j)) else D.flat (.int .i64 0)
theorem xrow_pers (A:Au) (n p q:Nat):persL (xrow A n p q)=true:=by
 unfold xrow
 generalize List.range n=l
 induction l with
 |nil=>rfl
 |cons x l ih=>
  simp only [List.map_cons,persL,Bool.and_eq_true]
  refine⟨?_,ih⟩
  split <;> rfl
theorem xrow_len (A:Au) (n p q:Nat):(xrow A n p q).length=n:=by simp [xrow]
theorem xrow_zero (A:Au) (n p:Nat):xrow A n p 0=List.replicate n (D.flat (.int .i64 0)):=by
 unfold xrow
 simp only [Nat.not_lt_zero,if_false]
 rw [List.map_const',List.length_range]
theorem xrow_all (A:Au) (n p:Nat):xrow A n p n=mrow (MR A 0 0 0) n p:=by
 unfold xrow mrow
 refine List.map_congr_left fun j hj=>?_
 rw [if_pos (List.mem_range.1 hj)]
theorem xrow_set (A:Au) {n p q:Nat} (h:q<n) (z:D):(((xrow A n p q).set q z).set q (D.flat (.int .i64 (MR A 0 0 0 p q))))=xrow A n p (q+1):=by
 rw [List.set_set]
 unfold xrow
 refine List.ext_getElem? fun j=>?_
 rw [List.getElem?_set]
 by_cases hj:q=j
 ·subst hj
  simp [h]
 ·rw [if_neg hj]
  by_cases hn:j<n
  ·simp only [List.getElem?_map,List.getElem?_range hn,Option.map_some]
   by_cases hq:j<q
   ·rw [if_pos hq,if_pos (by omega)]
   ·rw [if_neg hq,if_neg (by omega)]
  ·rw [List.getElem?_eq_none (by simp;omega),List.getElem?_eq_none (by simp;omega)]
theorem xrow_set1 (A:Au) {n p q:Nat} (h:q<n) (hm:MR A 0 0 0 p q= -1):List.take (q*1) (xrow A n p q)++ [D.flat (.int .i64 (-1))]++List.drop (q*1+1) (xrow A n p q)=xrow A n p (q+1):=by
 have h1:=splice_set (cs:=xrow A n p q) (i:=q) (x:= .flat (.int .i64 (-1))) (by rw [xrow_len];exact h)
 unfold spliceD at h1
 have h2:=xrow_set A h (p:=p) (.flat (.int .i64 (-1)))
 rw [hm,List.set_set] at h2
 rw [Nat.mul_one]
 exact h1.trans h2
theorem xrow_set2 (A:Au) {n p q:Nat} (h:q<n) (hm:MR A 0 0 0 p q=0):List.take (q*1) (List.take (q*1) (xrow A n p q)++ [D.flat (.int .i64 (-1))]++List.drop (q*1+1) (xrow A n p q))++ [D.flat (.int .i64 0)]++List.drop (q*1+1) (List.take (q*1) (xrow A n p q)++ [D.flat (.int .i64 (-1))]++List.drop (q*1+1) (xrow A n p q))=xrow A n p (q+1):=by
 have h1:=splice_set (cs:=xrow A n p q) (i:=q) (x:= .flat (.int .i64 (-1))) (by rw [xrow_len];exact h)
 unfold spliceD at h1
 have h3:=splice_set (cs:=(xrow A n p q).set q (.flat (.int .i64 (-1)))) (i:=q) (x:= .flat (.int .i64 0)) (by rw [List.length_set,xrow_len];exact h)
 unfold spliceD at h3
 have h2:=xrow_set A h (p:=p) (.flat (.int .i64 (-1)))
 rw [hm] at h2
 rw [Nat.mul_one]
 have h1:List.take q (xrow A n p q)++ [.flat (.int .i64 (-1))]++List.drop (q+1) (xrow A n p q)=(xrow A n p q).set q (.flat (.int .i64 (-1))):=h1
 rw [h1]
 exact h3.trans h2
theorem MR_first (A:Au) (p q:Nat):MR A 0 0 0 p q=if A.final.getD p false≠A.final.getD q false then 0 else -1:=by
 unfold MR
 rw [if_neg (by omega),farK]
 rfl
def farD (A:Au):List D:=(List.range A.final.length).map fun p=>D.sl false 1 A.final.length (mrow (fun (i j:Nat)=>farA A i j) A.final.length p)
theorem far_i1_0 {cc:Code} (hsel:selC [1,1,1,0,1,2,2] code51=some cc) (A:Au) (hN:A.final.length=1):DW Try.prog 118 cc ⟨[(1,.ref 1 0),(3,.flat (.int .i64 ((A.final.length:Nat):Int))),(4,.own 16 A.final.length),(5,.flat (.int .i64 ((0:Nat):Int)))],[(1,some (.box [.sl false 1 A.ranks.length (A.ranks.map fun x=>D.flat (.int .i64 x)),.sl false 1 A.final.length (A.final.map fun x=>D.flat (.bool x)),.sl false 1 A.to.length (rowsL A.to)])),(16,some (.row 22 1 A.final.length [.flat (.slice none 0 0)]))]⟩ (Nm 118 ⟨[(1,.ref 1 0),(3,.flat (.int .i64 ((A.final.length:Nat):Int))),(4,.own 16 A.final.length),(5,.flat (.int .i64 ((1:Nat):Int)))],[(1,some (.box [.sl false 1 A.ranks.length (A.ranks.map fun x=>D.flat (.int .i64 x)),.sl false 1 A.final.length (A.final.map fun x=>D.flat (.bool x)),.sl false 1 A.to.length (rowsL A.to)])),(16,some (.row 22 1 A.final.length [.own 801 A.final.length])),(801,some (.row 3 1 A.final.length (mrow (MR A 0 0 0) A.final.length 0)))]⟩):=by
 have q1:=pers_i A.ranks
 have q2:=pers_b A.final
 have q3:=pers_r A.to
 have q4:=spC_pers (stepsA A)
 have h25:=IdAt.of 25 801
 have hfp:=fun (i:Nat) (h:i<A.final.length)=>fin_part A.final h
 have hf:=fun q=>MR_first A 0 q
 have hX0:=xrow_zero A A.final.length 0
 have hX:=fun q=>xrow_pers A A.final.length 0 q
 have hXl:=fun q=>xrow_len A A.final.length 0 q
 have hXa:=xrow_all A A.final.length 0
 have h1:=fun q (h:q<A.final.length)=>xrow_set1 A (p:=0) h
 have h2:=fun q (h:q<A.final.length)=>xrow_set2 A (p:=0) h
 have hfj:=hfp 0 (by omega)
 generalize (A.ranks.map fun x=>D.flat (.int .i64 x))=LR at*
 generalize (A.final.map fun x=>D.flat (.bool x))=LB at*
 generalize rowsL A.to=LT at*
 generalize A.ranks.length=rl at*
 generalize A.final.length=n at*
 generalize A.to.length=ta at*
 generalize A.final.getD 0 false=fj at*
 refine DW.sel hsel (by rfl) ?_
 refine DW.walk ?_
 refine DW.loopA (fun q:Nat=>⟨[(1,.ref 1 0),(3,.flat (.int .i64 ((n:Nat):Int))),(4,.own 16 n),(5,.flat (.int .i64 ((0:Nat):Int))),(6,.flat (.int .i64 ((q:Nat):Int)))],[(1,some (.box [.sl false 1 rl LR,.sl false 1 n LB,.sl false 1 ta LT])),(16,some (.row 22 1 n [.own 801 n])),(801,some (.row 3 1 n (xrow A n 0 q)))]⟩) (fun q=>q≤n) (fun q=>n - q) 0 ?_ (Nat.zero_le _) (by rw [hX0];have:=hX 0;rw [hX0] at this;generalize (List.replicate n (D.flat (.int .i64 0)))=Z at *;exact Sub.auto)
 intro q hq
 rcases Nat.lt_or_ge q n with hlt|hge
 ·have   hfq:=hfp q hlt
  have hq:=hf q
  have e1:=h1 q hlt
  have e2:=h2 q hlt
  have x0:=hX q
  have x1:=hX (q+1)
  have l0:=hXl q
  generalize A.final.getD q false=fq at*
  generalize MR A 0 0 0 0 q=v at*
  clear hf h1 h2 hX hXl hfp
  generalize hY:xrow A n 0 (q+1)=Y at*
  generalize xrow A n 0 q=X at*
  cases fj <;> cases fq
  all_goals
   simp only [ne_eq,not_true_eq_false,not_false_eq_true,if_true,if_false,reduceCtorEq] at hq
   first
        |(have e:=e1 hq
          refine DW.walk ?_
          rw [e]
          exact⟨q+1,by omega,by omega,by rw [hY];exact Sub.auto⟩)
        |(have e:=e2 hq
          refine DW.walk ?_
          rw [e]
          exact⟨q+1,by omega,by omega,by rw [hY];exact Sub.auto⟩)
 ·obtain rfl:n=q:=by omega
  rw [hXa]
  have y0:=mrow_pers (MR A 0 0 0) n 0
  clear hf h1 h2 hX hXl hfp
  refine DW.walk ?_
  exact Nm.mk Sub.auto
theorem far_i2_0 {cc:Code} (hsel:selC [1,1,1,0,1,2,2] code51=some cc) (A:Au) (hN:A.final.length=2):DW Try.prog 118 cc ⟨[(1,.ref 1 0),(3,.flat (.int .i64 ((A.final.length:Nat):Int))),(4,.own 16 A.final.length),(5,.flat (.int .i64 ((0:Nat):Int)))],[(1,some (.box [.sl false 1 A.ranks.length (A.ranks.map fun x=>D.flat (.int .i64 x)),.sl false 1 A.final.length (A.final.map fun x=>D.flat (.bool x)),.sl false 1 A.to.length (rowsL A.to)])),(16,some (.row 22 1 A.final.length [.flat (.slice none 0 0),.flat (.slice none 0 0)]))]⟩ (Nm 118 ⟨[(1,.ref 1 0),(3,.flat (.int .i64 ((A.final.length:Nat):Int))),(4,.own 16 A.final.length),(5,.flat (.int .i64 ((1:Nat):Int)))],[(1,some (.box [.sl false 1 A.ranks.length (A.ranks.map fun x=>D.flat (.int .i64 x)),.sl false 1 A.final.length (A.final.map fun x=>D.flat (.bool x)),.sl false 1 A.to.length (rowsL A.to)])),(16,some (.row 22 1 A.final.length [.own 801 A.final.length,.flat (.slice none 0 0)])),(801,some (.row 3 1 A.final.length (mrow (MR A 0 0 0) A.final.length 0)))]⟩):=by
 have q1:=pers_i A.ranks
 have q2:=pers_b A.final
 have q3:=pers_r A.to
 have q4:=spC_pers (stepsA A)
 have h25:=IdAt.of 25 801
 have hfp:=fun (i:Nat) (h:i<A.final.length)=>fin_part A.final h
 have hf:=fun q=>MR_first A 0 q
 have hX0:=xrow_zero A A.final.length 0
 have hX:=fun q=>xrow_pers A A.final.length 0 q
 have hXl:=fun q=>xrow_len A A.final.length 0 q
 have hXa:=xrow_all A A.final.length 0
 have h1:=fun q (h:q<A.final.length)=>xrow_set1 A (p:=0) h
 have h2:=fun q (h:q<A.final.length)=>xrow_set2 A (p:=0) h
 have hfj:=hfp 0 (by omega)
 generalize (A.ranks.map fun x=>D.flat (.int .i64 x))=LR at*
 generalize (A.final.map fun x=>D.flat (.bool x))=LB at*
 generalize rowsL A.to=LT at*
 generalize A.ranks.length=rl at*
 generalize A.final.length=n at*
 generalize A.to.length=ta at*
 generalize A.final.getD 0 false=fj at*
 refine DW.sel hsel (by rfl) ?_
 refine DW.walk ?_
 refine DW.loopA (fun q:Nat=>⟨[(1,.ref 1 0),(3,.flat (.int .i64 ((n:Nat):Int))),(4,.own 16 n),(5,.flat (.int .i64 ((0:Nat):Int))),(6,.flat (.int .i64 ((q:Nat):Int)))],[(1,some (.box [.sl false 1 rl LR,.sl false 1 n LB,.sl false 1 ta LT])),(16,some (.row 22 1 n [.own 801 n,.flat (.slice none 0 0)])),(801,some (.row 3 1 n (xrow A n 0 q)))]⟩) (fun q=>q≤n) (fun q=>n - q) 0 ?_ (Nat.zero_le _) (by rw [hX0];have:=hX 0;rw [hX0] at this;generalize (List.replicate n (D.flat (.int .i64 0)))=Z at *;exact Sub.auto)
 intro q hq
 rcases Nat.lt_or_ge q n with hlt|hge
 ·have   hfq:=hfp q hlt
  have hq:=hf q
  have e1:=h1 q hlt
  have e2:=h2 q hlt
  have x0:=hX q
  have x1:=hX (q+1)
  have l0:=hXl q
  generalize A.final.getD q false=fq at*
  generalize MR A 0 0 0 0 q=v at*
  clear hf h1 h2 hX hXl hfp
  generalize hY:xrow A n 0 (q+1)=Y at*
  generalize xrow A n 0 q=X at*
  cases fj <;> cases fq
  all_goals
   simp only [ne_eq,not_true_eq_false,not_false_eq_true,if_true,if_false,reduceCtorEq] at hq
   first
        |(have e:=e1 hq
          refine DW.walk ?_
          rw [e]
          exact⟨q+1,by omega,by omega,by rw [hY];exact Sub.auto⟩)
        |(have e:=e2 hq
          refine DW.walk ?_
          rw [e]
          exact⟨q+1,by omega,by omega,by rw [hY];exact Sub.auto⟩)
 ·obtain rfl:n=q:=by omega
  rw [hXa]
  have y0:=mrow_pers (MR A 0 0 0) n 0
  clear hf h1 h2 hX hXl hfp
  refine DW.walk ?_
  exact Nm.mk Sub.auto
theorem far_i2_1 {cc:Code} (hsel:selC [1,1,1,0,1,2,2] code51=some cc) (A:Au) (hN:A.final.length=2):DW Try.prog 118 cc ⟨[(1,.ref 1 0),(3,.flat (.int .i64 ((A.final.length:Nat):Int))),(4,.own 16 A.final.length),(5,.flat (.int .i64 ((1:Nat):Int)))],[(1,some (.box [.sl false 1 A.ranks.length (A.ranks.map fun x=>D.flat (.int .i64 x)),.sl false 1 A.final.length (A.final.map fun x=>D.flat (.bool x)),.sl false 1 A.to.length (rowsL A.to)])),(16,some (.row 22 1 A.final.length [.own 801 A.final.length,.flat (.slice none 0 0)])),(801,some (.row 3 1 A.final.length (mrow (MR A 0 0 0) A.final.length 0)))]⟩ (Nm 118 ⟨[(1,.ref 1 0),(3,.flat (.int .i64 ((A.final.length:Nat):Int))),(4,.own 16 A.final.length),(5,.flat (.int .i64 ((2:Nat):Int)))],[(1,some (.box [.sl false 1 A.ranks.length (A.ranks.map fun x=>D.flat (.int .i64 x)),.sl false 1 A.final.length (A.final.map fun x=>D.flat (.bool x)),.sl false 1 A.to.length (rowsL A.to)])),(16,some (.row 22 1 A.final.length [.own 801 A.final.length,.own 802 A.final.length])),(801,some (.row 3 1 A.final.length (mrow (MR A 0 0 0) A.final.length 0))),(802,some (.row 3 1 A.final.length (mrow (MR A 0 0 0) A.final.length 1)))]⟩):=by
 have q1:=pers_i A.ranks
 have q2:=pers_b A.final
 have q3:=pers_r A.to
 have q4:=spC_pers (stepsA A)
 have h25:=IdAt.of 25 802
 have hfp:=fun (i:Nat) (h:i<A.final.length)=>fin_part A.final h
 have hf:=fun q=>MR_first A 1 q
 have hX0:=xrow_zero A A.final.length 1
 have hX:=fun q=>xrow_pers A A.final.length 1 q
 have hXl:=fun q=>xrow_len A A.final.length 1 q
 have hXa:=xrow_all A A.final.length 1
 have h1:=fun q (h:q<A.final.length)=>xrow_set1 A (p:=1) h
 have h2:=fun q (h:q<A.final.length)=>xrow_set2 A (p:=1) h
 have hfj:=hfp 1 (by omega)
 generalize (A.ranks.map fun x=>D.flat (.int .i64 x))=LR at*
 generalize (A.final.map fun x=>D.flat (.bool x))=LB at*
 generalize rowsL A.to=LT at*
 generalize A.ranks.length=rl at*
 generalize A.final.length=n at*
 generalize A.to.length=ta at*
 generalize A.final.getD 1 false=fj at*
 refine DW.sel hsel (by rfl) ?_
 have y0:=mrow_pers (MR A 0 0 0) n 0
 refine DW.walk ?_
 refine DW.loopA (fun q:Nat=>⟨[(1,.ref 1 0),(3,.flat (.int .i64 ((n:Nat):Int))),(4,.own 16 n),(5,.flat (.int .i64 ((1:Nat):Int))),(6,.flat (.int .i64 ((q:Nat):Int)))],[(1,some (.box [.sl false 1 rl LR,.sl false 1 n LB,.sl false 1 ta LT])),(16,some (.row 22 1 n [.own 801 n,.own 802 n])),(801,some (.row 3 1 n (mrow (MR A 0 0 0) n 0))),(802,some (.row 3 1 n (xrow A n 1 q)))]⟩) (fun q=>q≤n) (fun q=>n - q) 0 ?_ (Nat.zero_le _) (by rw [hX0];have:=hX 0;rw [hX0] at this;generalize (List.replicate n (D.flat (.int .i64 0)))=Z at *;exact Sub.auto)
 intro q hq
 rcases Nat.lt_or_ge q n with hlt|hge
 ·have   hfq:=hfp q hlt
  have hq:=hf q
  have e1:=h1 q hlt
  have e2:=h2 q hlt
  have x0:=hX q
  have x1:=hX (q+1)
  have l0:=hXl q
  generalize A.final.getD q false=fq at*
  generalize MR A 0 0 0 1 q=v at*
  clear hf h1 h2 hX hXl hfp
  generalize hY:xrow A n 1 (q+1)=Y at*
  generalize xrow A n 1 q=X at*
  cases fj <;> cases fq
  all_goals
   simp only [ne_eq,not_true_eq_false,not_false_eq_true,if_true,if_false,reduceCtorEq] at hq
   first
        |(have e:=e1 hq
          refine DW.walk ?_
          rw [e]
          exact⟨q+1,by omega,by omega,by rw [hY];exact Sub.auto⟩)
        |(have e:=e2 hq
          refine DW.walk ?_
          rw [e]
          exact⟨q+1,by omega,by omega,by rw [hY];exact Sub.auto⟩)
 ·obtain rfl:n=q:=by omega
  rw [hXa]
  have y1:=mrow_pers (MR A 0 0 0) n 1
  clear hf h1 h2 hX hXl hfp
  refine DW.walk ?_
  exact Nm.mk Sub.auto
end Go.Proofs.Ytichhfbkhnimmaa
