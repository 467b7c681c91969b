/- The table of distances: single steps at 4 states. No condition. -/
import Derived.Test.YtichhfbkhnimmaaYFA3
set_option linter.unusedSimpArgs false
set_option linter.unusedVariables false
set_option maxHeartbeats 4000000
set_option maxRecDepth 8000
namespace Go.Proofs.Ytichhfbkhnimmaa
open Go Go.RowKit Go.PP Go.Dm Go.Rt Go.Mn
theorem far_c4 {cc:Code} (hsel:selC [1,1,1,1,1,0,1,2,2,1,0,2,1,2,2,1,0,2,1,2,2,1,0,2,1,2,2,0,0] code51=some cc) (n m rl ta r q s p:Nat) (hN:n=4) (LR LB LT SC:List D) (M:Nat→Nat→Int) (q1:persL LR=true) (q2:persL LB=true) (q3:persL LT=true) (q4:persL SC=true) (hm:m≤5000000) (hr:r<n) (hp:p<n) (hq:q<n) (hs:s<m):DW Try.prog 118 cc ⟨[(1,.ref 1 0),(3,.flat (.int .i64 ((n:Nat):Int))),(4,.own 16 n),(7,.sl false 3 m SC),(8,.flat (.int .i64 ((r:Nat):Int))),(9,.flat (.int .i64 ((p:Nat):Int))),(10,.flat (.int .i64 ((q:Nat):Int))),(11,.flat (.int .i64 ((s:Nat):Int)))],[(1,some (.box [.sl false 1 rl LR,.sl false 1 n LB,.sl false 1 ta LT])),(16,some (.row 22 1 n [.own 801 n,.own 802 n,.own 803 n,.own 804 n])),(801,some (.row 3 1 n (mrow M n 0))),(802,some (.row 3 1 n (mrow M n 1))),(803,some (.row 3 1 n (mrow M n 2))),(804,some (.row 3 1 n (mrow M n 3)))]⟩ (Nm 118 ⟨[(85,.flat (.bool (decide (M p q<0)))),(1,.ref 1 0),(3,.flat (.int .i64 ((n:Nat):Int))),(4,.own 16 n),(7,.sl false 3 m SC),(8,.flat (.int .i64 ((r:Nat):Int))),(9,.flat (.int .i64 ((p:Nat):Int))),(10,.flat (.int .i64 ((q:Nat):Int))),(11,.flat (.int .i64 ((s:Nat):Int)))],[(1,some (.box [.sl false 1 rl LR,.sl false 1 n LB,.sl false 1 ta LT])),(16,some (.row 22 1 n [.own 801 n,.own 802 n,.own 803 n,.own 804 n])),(801,some (.row 3 1 n (mrow M n 0))),(802,some (.row 3 1 n (mrow M n 1))),(803,some (.row 3 1 n (mrow M n 2))),(804,some (.row 3 1 n (mrow M n 3)))]⟩):=by
 refine DW.sel hsel (by rfl) ?_
 have hv:=mrow_part (M:=M) (p:=p) hq
 generalize M p q=v at*
 rcases (show p=0∨p=1∨p=2∨p=3 by omega) with rfl|rfl|rfl|rfl
 all_goals
  have z0:=mrow_pers M n 0
  generalize mrow M n 0=R0 at*
  have z1:=mrow_pers M n 1
  generalize mrow M n 1=R1 at*
  have z2:=mrow_pers M n 2
  generalize mrow M n 2=R2 at*
  have z3:=mrow_pers M n 3
  generalize mrow M n 3=R3 at*
  refine DW.walk ?_
  exact Nm.mk Sub.auto
theorem far_x4 {cc:Code} (hsel:selC [1,1,1,1,1,0,1,2,2,1,0,2,1,2,2,1,0,2,1,2,2,1,0,2,1,2,2,1,0,2,0] code51=some cc) (n m rl ta r q s p:Nat) (hN:n=4) (LR LB LT SC:List D) (M:Nat→Nat→Int) (q1:persL LR=true) (q2:persL LB=true) (q3:persL LT=true) (q4:persL SC=true) (hm:m≤5000000) (hr:r<n) (hp:p<n) (hq:q<n) (hs:s<m) (sy sa so:Int) (x y:Nat) (hx:x<n) (hy:y<n) (hst:partD true 3 (s*3) SC=some (.agg [.flat (.int .i64 sy),.flat (.int .i64 sa),.flat (.int .i64 so)])) (hgx:DFun Try.prog 23 [.agg [.sl false 1 rl LR,.sl false 1 n LB,.sl false 1 ta LT],.agg [.flat (.int .i64 sy),.flat (.int .i64 sa),.flat (.int .i64 so)],.flat (.int .i64 ((p:Nat):Int))] (.flat (.int .i64 ((x:Nat):Int)))) (hgy:DFun Try.prog 23 [.agg [.sl false 1 rl LR,.sl false 1 n LB,.sl false 1 ta LT],.agg [.flat (.int .i64 sy),.flat (.int .i64 sa),.flat (.int .i64 so)],.flat (.int .i64 ((q:Nat):Int))] (.flat (.int .i64 ((y:Nat):Int)))):DW Try.prog 118 cc ⟨[(1,.ref 1 0),(3,.flat (.int .i64 ((n:Nat):Int))),(4,.own 16 n),(7,.sl false 3 m SC),(8,.flat (.int .i64 ((r:Nat):Int))),(9,.flat (.int .i64 ((p:Nat):Int))),(10,.flat (.int .i64 ((q:Nat):Int))),(11,.flat (.int .i64 ((s:Nat):Int)))],[(1,some (.box [.sl false 1 rl LR,.sl false 1 n LB,.sl false 1 ta LT])),(16,some (.row 22 1 n [.own 801 n,.own 802 n,.own 803 n,.own 804 n])),(801,some (.row 3 1 n (mrow M n 0))),(802,some (.row 3 1 n (mrow M n 1))),(803,some (.row 3 1 n (mrow M n 2))),(804,some (.row 3 1 n (mrow M n 3)))]⟩ (Nm 118 ⟨[(108,.flat (.bool (decide (M x y=(r:Int))))),(1,.ref 1 0),(3,.flat (.int .i64 ((n:Nat):Int))),(4,.own 16 n),(7,.sl false 3 m SC),(8,.flat (.int .i64 ((r:Nat):Int))),(9,.flat (.int .i64 ((p:Nat):Int))),(10,.flat (.int .i64 ((q:Nat):Int))),(11,.flat (.int .i64 ((s:Nat):Int)))],[(1,some (.box [.sl false 1 rl LR,.sl false 1 n LB,.sl false 1 ta LT])),(16,some (.row 22 1 n [.own 801 n,.own 802 n,.own 803 n,.own 804 n])),(801,some (.row 3 1 n (mrow M n 0))),(802,some (.row 3 1 n (mrow M n 1))),(803,some (.row 3 1 n (mrow M n 2))),(804,some (.row 3 1 n (mrow M n 3)))]⟩):=by
 refine DW.sel hsel (by rfl) ?_
 have hv:=mrow_part (M:=M) (p:=x) hy
 generalize M x y=v at*
 rcases (show x=0∨x=1∨x=2∨x=3 by omega) with rfl|rfl|rfl|rfl
 all_goals
  have z0:=mrow_pers M n 0
  generalize mrow M n 0=R0 at*
  have z1:=mrow_pers M n 1
  generalize mrow M n 1=R1 at*
  have z2:=mrow_pers M n 2
  generalize mrow M n 2=R2 at*
  have z3:=mrow_pers M n 3
  generalize mrow M n 3=R3 at*
  refine DW.walk ?_
  exact Nm.mk Sub.auto
theorem far_w4 {cc:Code} (hsel:selC [1,1,1,1,1,0,1,2,2,1,0,2,1,2,2,1,0,2,1,2,2,1,0,2,1,2,2,1,0,2,1,0] code51=some cc) (n m rl ta r q s p:Nat) (hN:n=4) (LR LB LT SC:List D) (M:Nat→Nat→Int) (q1:persL LR=true) (q2:persL LB=true) (q3:persL LT=true) (q4:persL SC=true) (hm:m≤5000000) (hr:r<n) (hp:p<n) (hq:q<n) (hs:s<m):DW Try.prog 118 cc ⟨[(1,.ref 1 0),(3,.flat (.int .i64 ((n:Nat):Int))),(4,.own 16 n),(7,.sl false 3 m SC),(8,.flat (.int .i64 ((r:Nat):Int))),(9,.flat (.int .i64 ((p:Nat):Int))),(10,.flat (.int .i64 ((q:Nat):Int))),(11,.flat (.int .i64 ((s:Nat):Int)))],[(1,some (.box [.sl false 1 rl LR,.sl false 1 n LB,.sl false 1 ta LT])),(16,some (.row 22 1 n [.own 801 n,.own 802 n,.own 803 n,.own 804 n])),(801,some (.row 3 1 n (mrow M n 0))),(802,some (.row 3 1 n (mrow M n 1))),(803,some (.row 3 1 n (mrow M n 2))),(804,some (.row 3 1 n (mrow M n 3)))]⟩ (Nm 118 ⟨[(1,.ref 1 0),(3,.flat (.int .i64 ((n:Nat):Int))),(4,.own 16 n),(7,.sl false 3 m SC),(8,.flat (.int .i64 ((r:Nat):Int))),(9,.flat (.int .i64 ((p:Nat):Int))),(10,.flat (.int .i64 ((q:Nat):Int))),(11,.flat (.int .i64 ((s:Nat):Int)))],[(1,some (.box [.sl false 1 rl LR,.sl false 1 n LB,.sl false 1 ta LT])),(16,some (.row 22 1 n [.own 801 n,.own 802 n,.own 803 n,.own 804 n])),(801,some (.row 3 1 n (mrow (setM M p q ((r:Int)+1)) n 0))),(802,some (.row 3 1 n (mrow (setM M p q ((r:Int)+1)) n 1))),(803,some (.row 3 1 n (mrow (setM M p q ((r:Int)+1)) n 2))),(804,some (.row 3 1 n (mrow (setM M p q ((r:Int)+1)) n 3)))]⟩):=by
 refine DW.sel hsel (by rfl) ?_
 rcases (show p=0∨p=1∨p=2∨p=3 by omega) with rfl|rfl|rfl|rfl
 ·have hl:=mrow_len M n 0
  have hX:=mrow_set M (p:=0) ((r:Int)+1) hq
  have zX:=mrow_pers (setM M 0 q ((r:Int)+1)) n 0
  rw [mrow_ne M n q ((r:Int)+1) (show 1≠0 by decide),mrow_ne M n q ((r:Int)+1) (show 2≠0 by decide),mrow_ne M n q ((r:Int)+1) (show 3≠0 by decide)]
  generalize mrow (setM M 0 q ((r:Int)+1)) n 0=X at*
  have z0:=mrow_pers M n 0
  generalize mrow M n 0=R0 at*
  have z1:=mrow_pers M n 1
  generalize mrow M n 1=R1 at*
  have z2:=mrow_pers M n 2
  generalize mrow M n 2=R2 at*
  have z3:=mrow_pers M n 3
  generalize mrow M n 3=R3 at*
  refine DW.walk ?_
  rw [hX]
  exact Nm.mk Sub.auto
 ·have hl:=mrow_len M n 1
  have hX:=mrow_set M (p:=1) ((r:Int)+1) hq
  have zX:=mrow_pers (setM M 1 q ((r:Int)+1)) n 1
  rw [mrow_ne M n q ((r:Int)+1) (show 0≠1 by decide),mrow_ne M n q ((r:Int)+1) (show 2≠1 by decide),mrow_ne M n q ((r:Int)+1) (show 3≠1 by decide)]
  generalize mrow (setM M 1 q ((r:Int)+1)) n 1=X at*
  have z0:=mrow_pers M n 0
  generalize mrow M n 0=R0 at*
  have z1:=mrow_pers M n 1
  generalize mrow M n 1=R1 at*
  have z2:=mrow_pers M n 2
  generalize mrow M n 2=R2 at*
  have z3:=mrow_pers M n 3
  generalize mrow M n 3=R3 at*
  refine DW.walk ?_
  rw [hX]
  exact Nm.mk Sub.auto
 ·have hl:=mrow_len M n 2
  have hX:=mrow_set M (p:=2) ((r:Int)+1) hq
  have zX:=mrow_pers (setM M 2 q ((r:Int)+1)) n 2
  rw [mrow_ne M n q ((r:Int)+1) (show 0≠2 by decide),mrow_ne M n q ((r:Int)+1) (show 1≠2 by decide),mrow_ne M n q ((r:Int)+1) (show 3≠2 by decide)]
  generalize mrow (setM M 2 q ((r:Int)+1)) n 2=X at*
  have z0:=mrow_pers M n 0
  generalize mrow M n 0=R0 at*
  have z1:=mrow_pers M n 1
  generalize mrow M n 1=R1 at*
  have z2:=mrow_pers M n 2
  generalize mrow M n 2=R2 at*
  have z3:=mrow_pers M n 3
  generalize mrow M n 3=R3 at*
  refine DW.walk ?_
  rw [hX]
  exact Nm.mk Sub.auto
 ·have hl:=mrow_len M n 3
  have hX:=mrow_set M (p:=3) ((r:Int)+1) hq
  have zX:=mrow_pers (setM M 3 q ((r:Int)+1)) n 3
  rw [mrow_ne M n q ((r:Int)+1) (show 0≠3 by decide),mrow_ne M n q ((r:Int)+1) (show 1≠3 by decide),mrow_ne M n q ((r:Int)+1) (show 2≠3 by decide)]
  generalize mrow (setM M 3 q ((r:Int)+1)) n 3=X at*
  have z0:=mrow_pers M n 0
  generalize mrow M n 0=R0 at*
  have z1:=mrow_pers M n 1
  generalize mrow M n 1=R1 at*
  have z2:=mrow_pers M n 2
  generalize mrow M n 2=R2 at*
  have z3:=mrow_pers M n 3
  generalize mrow M n 3=R3 at*
  refine DW.walk ?_
  rw [hX]
  exact Nm.mk Sub.auto
theorem far_c5 {cc:Code} (hsel:selC [1,1,1,1,1,0,1,2,2,1,0,2,1,2,2,1,0,2,1,2,2,1,0,2,1,2,2,0,0] code51=some cc) (n m rl ta r q s p:Nat) (hN:n=5) (LR LB LT SC:List D) (M:Nat→Nat→Int) (q1:persL LR=true) (q2:persL LB=true) (q3:persL LT=true) (q4:persL SC=true) (hm:m≤5000000) (hr:r<n) (hp:p<n) (hq:q<n) (hs:s<m):DW Try.prog 118 cc ⟨[(1,.ref 1 0),(3,.flat (.int .i64 ((n:Nat):Int))),(4,.own 16 n),(7,.sl false 3 m SC),(8,.flat (.int .i64 ((r:Nat):Int))),(9,.flat (.int .i64 ((p:Nat):Int))),(10,.flat (.int .i64 ((q:Nat):Int))),(11,.flat (.int .i64 ((s:Nat):Int)))],[(1,some (.box [.sl false 1 rl LR,.sl false 1 n LB,.sl false 1 ta LT])),(16,some (.row 22 1 n [.own 801 n,.own 802 n,.own 803 n,.own 804 n,.own 805 n])),(801,some (.row 3 1 n (mrow M n 0))),(802,some (.row 3 1 n (mrow M n 1))),(803,some (.row 3 1 n (mrow M n 2))),(804,some (.row 3 1 n (mrow M n 3))),(805,some (.row 3 1 n (mrow M n 4)))]⟩ (Nm 118 ⟨[(85,.flat (.bool (decide (M p q<0)))),(1,.ref 1 0),(3,.flat (.int .i64 ((n:Nat):Int))),(4,.own 16 n),(7,.sl false 3 m SC),(8,.flat (.int .i64 ((r:Nat):Int))),(9,.flat (.int .i64 ((p:Nat):Int))),(10,.flat (.int .i64 ((q:Nat):Int))),(11,.flat (.int .i64 ((s:Nat):Int)))],[(1,some (.box [.sl false 1 rl LR,.sl false 1 n LB,.sl false 1 ta LT])),(16,some (.row 22 1 n [.own 801 n,.own 802 n,.own 803 n,.own 804 n,.own 805 n])),(801,some (.row 3 1 n (mrow M n 0))),(802,some (.row 3 1 n (mrow M n 1))),(803,some (.row 3 1 n (mrow M n 2))),(804,some (.row 3 1 n (mrow M n 3))),(805,some (.row 3 1 n (mrow M n 4)))]⟩):=by
 refine DW.sel hsel (by rfl) ?_
 have hv:=mrow_part (M:=M) (p:=p) hq
 generalize M p q=v at*
 rcases (show p=0∨p=1∨p=2∨p=3∨p=4 by omega) with rfl|rfl|rfl|rfl|rfl
 all_goals
  have z0:=mrow_pers M n 0
  generalize mrow M n 0=R0 at*
  have z1:=mrow_pers M n 1
  generalize mrow M n 1=R1 at*
  have z2:=mrow_pers M n 2
  generalize mrow M n 2=R2 at*
  have z3:=mrow_pers M n 3
  generalize mrow M n 3=R3 at*
  have z4:=mrow_pers M n 4
  generalize mrow M n 4=R4 at*
  refine DW.walk ?_
  exact Nm.mk Sub.auto
theorem far_x5 {cc:Code} (hsel:selC [1,1,1,1,1,0,1,2,2,1,0,2,1,2,2,1,0,2,1,2,2,1,0,2,1,2,2,1,0,2,0] code51=some cc) (n m rl ta r q s p:Nat) (hN:n=5) (LR LB LT SC:List D) (M:Nat→Nat→Int) (q1:persL LR=true) (q2:persL LB=true) (q3:persL LT=true) (q4:persL SC=true) (hm:m≤5000000) (hr:r<n) (hp:p<n) (hq:q<n) (hs:s<m) (sy sa so:Int) (x y:Nat) (hx:x<n) (hy:y<n) (hst:partD true 3 (s*3) SC=some (.agg [.flat (.int .i64 sy),.flat (.int .i64 sa),.flat (.int .i64 so)])) (hgx:DFun Try.prog 23 [.agg [.sl false 1 rl LR,.sl false 1 n LB,.sl false 1 ta LT],.agg [.flat (.int .i64 sy),.flat (.int .i64 sa),.flat (.int .i64 so)],.flat (.int .i64 ((p:Nat):Int))] (.flat (.int .i64 ((x:Nat):Int)))) (hgy:DFun Try.prog 23 [.agg [.sl false 1 rl LR,.sl false 1 n LB,.sl false 1 ta LT],.agg [.flat (.int .i64 sy),.flat (.int .i64 sa),.flat (.int .i64 so)],.flat (.int .i64 ((q:Nat):Int))] (.flat (.int .i64 ((y:Nat):Int)))):DW Try.prog 118 cc ⟨[(1,.ref 1 0),(3,.flat (.int .i64 ((n:Nat):Int))),(4,.own 16 n),(7,.sl false 3 m SC),(8,.flat (.int .i64 ((r:Nat):Int))),(9,.flat (.int .i64 ((p:Nat):Int))),(10,.flat (.int .i64 ((q:Nat):Int))),(11,.flat (.int .i64 ((s:Nat):Int)))],[(1,some (.box [.sl false 1 rl LR,.sl false 1 n LB,.sl false 1 ta LT])),(16,some (.row 22 1 n [.own 801 n,.own 802 n,.own 803 n,.own 804 n,.own 805 n])),(801,some (.row 3 1 n (mrow M n 0))),(802,some (.row 3 1 n (mrow M n 1))),(803,some (.row 3 1 n (mrow M n 2))),(804,some (.row 3 1 n (mrow M n 3))),(805,some (.row 3 1 n (mrow M n 4)))]⟩ (Nm 118 ⟨[(108,.flat (.bool (decide (M x y=(r:Int))))),(1,.ref 1 0),(3,.flat (.int .i64 ((n:Nat):Int))),(4,.own 16 n),(7,.sl false 3 m SC),(8,.flat (.int .i64 ((r:Nat):Int))),(9,.flat (.int .i64 ((p:Nat):Int))),(10,.flat (.int .i64 ((q:Nat):Int))),(11,.flat (.int .i64 ((s:Nat):Int)))],[(1,some (.box [.sl false 1 rl LR,.sl false 1 n LB,.sl false 1 ta LT])),(16,some (.row 22 1 n [.own 801 n,.own 802 n,.own 803 n,.own 804 n,.own 805 n])),(801,some (.row 3 1 n (mrow M n 0))),(802,some (.row 3 1 n (mrow M n 1))),(803,some (.row 3 1 n (mrow M n 2))),(804,some (.row 3 1 n (mrow M n 3))),(805,some (.row 3 1 n (mrow M n 4)))]⟩):=by
 refine DW.sel hsel (by rfl) ?_
 have hv:=mrow_part (M:=M) (p:=x) hy
 generalize M x y=v at*
 rcases (show x=0∨x=1∨x=2∨x=3∨x=4 by omega) with rfl|rfl|rfl|rfl|rfl
 all_goals
  have z0:=mrow_pers M n 0
  generalize mrow M n 0=R0 at*
  have z1:=mrow_pers M n 1
  generalize mrow M n 1=R1 at*
  have z2:=mrow_pers M n 2
  generalize mrow M n 2=R2 at*
  have z3:=mrow_pers M n 3
  generalize mrow M n 3=R3 at*
  have z4:=mrow_pers M n 4
  generalize mrow M n 4=R4 at*
  refine DW.walk ?_
  exact Nm.mk Sub.auto
theorem far_w5 {cc:Code} (hsel:selC [1,1,1,1,1,0,1,2,2,1,0,2,1,2,2,1,0,2,1,2,2,1,0,2,1,2,2,1,0,2,1,0] code51=some cc) (n m rl ta r q s p:Nat) (hN:n=5) (LR LB LT SC:List D) (M:Nat→Nat→Int) (q1:persL LR=true) (q2:persL LB=true) (q3:persL LT=true) (q4:persL SC=true) (hm:m≤5000000) (hr:r<n) (hp:p<n) (hq:q<n) (hs:s<m):DW Try.prog 118 cc ⟨[(1,.ref 1 0),(3,.flat (.int .i64 ((n:Nat):Int))),(4,.own 16 n),(7,.sl false 3 m SC),(8,.flat (.int .i64 ((r:Nat):Int))),(9,.flat (.int .i64 ((p:Nat):Int))),(10,.flat (.int .i64 ((q:Nat):Int))),(11,.flat (.int .i64 ((s:Nat):Int)))],[(1,some (.box [.sl false 1 rl LR,.sl false 1 n LB,.sl false 1 ta LT])),(16,some (.row 22 1 n [.own 801 n,.own 802 n,.own 803 n,.own 804 n,.own 805 n])),(801,some (.row 3 1 n (mrow M n 0))),(802,some (.row 3 1 n (mrow M n 1))),(803,some (.row 3 1 n (mrow M n 2))),(804,some (.row 3 1 n (mrow M n 3))),(805,some (.row 3 1 n (mrow M n 4)))]⟩ (Nm 118 ⟨[(1,.ref 1 0),(3,.flat (.int .i64 ((n:Nat):Int))),(4,.own 16 n),(7,.sl false 3 m SC),(8,.flat (.int .i64 ((r:Nat):Int))),(9,.flat (.int .i64 ((p:Nat):Int))),(10,.flat (.int .i64 ((q:Nat):Int))),(11,.flat (.int .i64 ((s:Nat):Int)))],[(1,some (.box [.sl false 1 rl LR,.sl false 1 n LB,.sl false 1 ta LT])),(16,some (.row 22 1 n [.own 801 n,.own 802 n,.own 803 n,.own 804 n,.own 805 n])),(801,some (.row 3 1 n (mrow (setM M p q ((r:Int)+1)) n 0))),(802,some (.row 3 1 n (mrow (setM M p q ((r:Int)+1)) n 1))),(803,some (.row 3 1 n (mrow (setM M p q ((r:Int)+1)) n 2))),(804,some (.row 3 1 n (mrow (setM M p q ((r:Int)+1)) n 3))),(805,some (.row 3 1 n (mrow (setM M p q ((r:Int)+1)) n 4)))]⟩):=by
 refine DW.sel hsel (by rfl) ?_
 rcases (show p=0∨p=1∨p=2∨p=3∨p=4 by omega) with rfl|rfl|rfl|rfl|rfl
 ·have hl:=mrow_len M n 0
  have hX:=mrow_set M (p:=0) ((r:Int)+1) hq
  have zX:=mrow_pers (setM M 0 q ((r:Int)+1)) n 0
  rw [mrow_ne M n q ((r:Int)+1) (show 1≠0 by decide),mrow_ne M n q ((r:Int)+1) (show 2≠0 by decide),mrow_ne M n q ((r:Int)+1) (show 3≠0 by decide),mrow_ne M n q ((r:Int)+1) (show 4≠0 by decide)]
  generalize mrow (setM M 0 q ((r:Int)+1)) n 0=X at*
  have z0:=mrow_pers M n 0
  generalize mrow M n 0=R0 at*
  have z1:=mrow_pers M n 1
  generalize mrow M n 1=R1 at*
  have z2:=mrow_pers M n 2
  generalize mrow M n 2=R2 at*
  have z3:=mrow_pers M n 3
  generalize mrow M n 3=R3 at*
  have z4:=mrow_pers M n 4
  generalize mrow M n 4=R4 at*
  refine DW.walk ?_
  rw [hX]
  exact Nm.mk Sub.auto
 ·have hl:=mrow_len M n 1
  have hX:=mrow_set M (p:=1) ((r:Int)+1) hq
  have zX:=mrow_pers (setM M 1 q ((r:Int)+1)) n 1
  rw [mrow_ne M n q ((r:Int)+1) (show 0≠1 by decide),mrow_ne M n q ((r:Int)+1) (show 2≠1 by decide),mrow_ne M n q ((r:Int)+1) (show 3≠1 by decide),mrow_ne M n q ((r:Int)+1) (show 4≠1 by decide)]
  generalize mrow (setM M 1 q ((r:Int)+1)) n 1=X at*
  have z0:=mrow_pers M n 0
  generalize mrow M n 0=R0 at*
  have z1:=mrow_pers M n 1
  generalize mrow M n 1=R1 at*
  have z2:=mrow_pers M n 2
  generalize mrow M n 2=R2 at*
  have z3:=mrow_pers M n 3
  generalize mrow M n 3=R3 at*
  have z4:=mrow_pers M n 4
  generalize mrow M n 4=R4 at*
  refine DW.walk ?_
  rw [hX]
  exact Nm.mk Sub.auto
 ·have hl:=mrow_len M n 2
  have hX:=mrow_set M (p:=2) ((r:Int)+1) hq
  have zX:=mrow_pers (setM M 2 q ((r:Int)+1)) n 2
  rw [mrow_ne M n q ((r:Int)+1) (show 0≠2 by decide),mrow_ne M n q ((r:Int)+1) (show 1≠2 by decide),mrow_ne M n q ((r:Int)+1) (show 3≠2 by decide),mrow_ne M n q ((r:Int)+1) (show 4≠2 by decide)]
  generalize mrow (setM M 2 q ((r:Int)+1)) n 2=X at*
  have z0:=mrow_pers M n 0
  generalize mrow M n 0=R0 at*
  have z1:=mrow_pers M n 1
  generalize mrow M n 1=R1 at*
  have z2:=mrow_pers M n 2
  generalize mrow M n 2=R2 at*
  have z3:=mrow_pers M n 3
  generalize mrow M n 3=R3 at*
  have z4:=mrow_pers M n 4
  generalize mrow M n 4=R4 at*
  refine DW.walk ?_
  rw [hX]
  exact Nm.mk Sub.auto
 ·have hl:=mrow_len M n 3
  have hX:=mrow_set M (p:=3) ((r:Int)+1) hq
  have zX:=mrow_pers (setM M 3 q ((r:Int)+1)) n 3
  rw [mrow_ne M n q ((r:Int)+1) (show 0≠3 by decide),mrow_ne M n q ((r:Int)+1) (show 1≠3 by decide),mrow_ne M n q ((r:Int)+1) (show 2≠3 by decide),mrow_ne M n q ((r:Int)+1) (show 4≠3 by decide)]
  generalize mrow (setM M 3 q ((r:Int)+1)) n 3=X at*
  have z0:=mrow_pers M n 0
  generalize mrow M n 0=R0 at*
  have z1:=mrow_pers M n 1
  generalize mrow M n 1=R1 at*
  have z2:=mrow_pers M n 2
  generalize mrow M n 2=R2 at*
  have z3:=mrow_pers M n 3
  generalize mrow M n 3=R3 at*
  have z4:=mrow_pers M n 4
  generalize mrow M n 4=R4 at*
  refine DW.walk ?_
  rw [hX]
  exact Nm.mk Sub.auto
 ·have hl:=mrow_len M n 4
  have hX:=mrow_set M (p:=4) ((r:Int)+1) hq
  have zX:=mrow_pers (setM M 4 q ((r:Int)+1)) n 4
  rw [mrow_ne M n q ((r:Int)+1) (show 0≠4 by decide),mrow_ne M n q ((r:Int)+1) (show 1≠4 by decide),mrow_ne M n q ((r:Int)+1) (show 2≠4 by decide),mrow_ne M n q ((r:Int)+1) (show 3≠4 by decide)]
  generalize mrow (setM M 4 q ((r:Int)+1)) n 4=X at*
  have z0:=mrow_pers M n 0
  generalize mrow M n 0=R0 at*
  have z1:=mrow_pers M n 1
  generalize mrow M n 1=R1 at*
  have z2:=mrow_pers M n 2
  generalize mrow M n 2=R2 at*
  have z3:=mrow_pers M n 3
  generalize mrow M n 3=R3 at*
  have z4:=mrow_pers M n 4
  generalize mrow M n 4=R4 at*
  refine DW.walk ?_
  rw [hX]
  exact Nm.mk Sub.auto
theorem far_c6 {cc:Code} (hsel:selC [1,1,1,1,1,0,1,2,2,1,0,2,1,2,2,1,0,2,1,2,2,1,0,2,1,2,2,0,0] code51=some cc) (n m rl ta r q s p:Nat) (hN:n=6) (LR LB LT SC:List D) (M:Nat→Nat→Int) (q1:persL LR=true) (q2:persL LB=true) (q3:persL LT=true) (q4:persL SC=true) (hm:m≤5000000) (hr:r<n) (hp:p<n) (hq:q<n) (hs:s<m):DW Try.prog 118 cc ⟨[(1,.ref 1 0),(3,.flat (.int .i64 ((n:Nat):Int))),(4,.own 16 n),(7,.sl false 3 m SC),(8,.flat (.int .i64 ((r:Nat):Int))),(9,.flat (.int .i64 ((p:Nat):Int))),(10,.flat (.int .i64 ((q:Nat):Int))),(11,.flat (.int .i64 ((s:Nat):Int)))],[(1,some (.box [.sl false 1 rl LR,.sl false 1 n LB,.sl false 1 ta LT])),(16,some (.row 22 1 n [.own 801 n,.own 802 n,.own 803 n,.own 804 n,.own 805 n,.own 806 n])),(801,some (.row 3 1 n (mrow M n 0))),(802,some (.row 3 1 n (mrow M n 1))),(803,some (.row 3 1 n (mrow M n 2))),(804,some (.row 3 1 n (mrow M n 3))),(805,some (.row 3 1 n (mrow M n 4))),(806,some (.row 3 1 n (mrow M n 5)))]⟩ (Nm 118 ⟨[(85,.flat (.bool (decide (M p q<0)))),(1,.ref 1 0),(3,.flat (.int .i64 ((n:Nat):Int))),(4,.own 16 n),(7,.sl false 3 m SC),(8,.flat (.int .i64 ((r:Nat):Int))),(9,.flat (.int .i64 ((p:Nat):Int))),(10,.flat (.int .i64 ((q:Nat):Int))),(11,.flat (.int .i64 ((s:Nat):Int)))],[(1,some (.box [.sl false 1 rl LR,.sl false 1 n LB,.sl false 1 ta LT])),(16,some (.row 22 1 n [.own 801 n,.own 802 n,.own 803 n,.own 804 n,.own 805 n,.own 806 n])),(801,some (.row 3 1 n (mrow M n 0))),(802,some (.row 3 1 n (mrow M n 1))),(803,some (.row 3 1 n (mrow M n 2))),(804,some (.row 3 1 n (mrow M n 3))),(805,some (.row 3 1 n (mrow M n 4))),(806,some (.row 3 1 n (mrow M n 5)))]⟩):=by
 refine DW.sel hsel (by rfl) ?_
 have hv:=mrow_part (M:=M) (p:=p) hq
 generalize M p q=v at*
 rcases (show p=0∨p=1∨p=2∨p=3∨p=4∨p=5 by omega) with rfl|rfl|rfl|rfl|rfl|rfl
 all_goals
  have z0:=mrow_pers M n 0
  generalize mrow M n 0=R0 at*
  have z1:=mrow_pers M n 1
  generalize mrow M n 1=R1 at*
  have z2:=mrow_pers M n 2
  generalize mrow M n 2=R2 at*
  have z3:=mrow_pers M n 3
  generalize mrow M n 3=R3 at*
  have z4:=mrow_pers M n 4
  generalize mrow M n 4=R4 at*
  have z5:=mrow_pers M n 5
  generalize mrow M n 5=R5 at*
  refine DW.walk ?_
  exact Nm.mk Sub.auto
theorem far_x6 {cc:Code} (hsel:selC [1,1,1,1,1,0,1,2,2,1,0,2,1,2,2,1,0,2,1,2,2,1,0,2,1,2,2,1,0,2,0] code51=some cc) (n m rl ta r q s p:Nat) (hN:n=6) (LR LB LT SC:List D) (M:Nat→Nat→Int) (q1:persL LR=true) (q2:persL LB=true) (q3:persL LT=true) (q4:persL SC=true) (hm:m≤5000000) (hr:r<n) (hp:p<n) (hq:q<n) (hs:s<m) (sy sa so:Int) (x y:Nat) (hx:x<n) (hy:y<n) (hst:partD true 3 (s*3) SC=some (.agg [.flat (.int .i64 sy),.flat (.int .i64 sa),.flat (.int .i64 so)])) (hgx:DFun Try.prog 23 [.agg [.sl false 1 rl LR,.sl false 1 n LB,.sl false 1 ta LT],.agg [.flat (.int .i64 sy),.flat (.int .i64 sa),.flat (.int .i64 so)],.flat (.int .i64 ((p:Nat):Int))] (.flat (.int .i64 ((x:Nat):Int)))) (hgy:DFun Try.prog 23 [.agg [.sl false 1 rl LR,.sl false 1 n LB,.sl false 1 ta LT],.agg [.flat (.int .i64 sy),.flat (.int .i64 sa),.flat (.int .i64 so)],.flat (.int .i64 ((q:Nat):Int))] (.flat (.int .i64 ((y:Nat):Int)))):DW Try.prog 118 cc ⟨[(1,.ref 1 0),(3,.flat (.int .i64 ((n:Nat):Int))),(4,.own 16 n),(7,.sl false 3 m SC),(8,.flat (.int .i64 ((r:Nat):Int))),(9,.flat (.int .i64 ((p:Nat):Int))),(10,.flat (.int .i64 ((q:Nat):Int))),(11,.flat (.int .i64 ((s:Nat):Int)))],[(1,some (.box [.sl false 1 rl LR,.sl false 1 n LB,.sl false 1 ta LT])),(16,some (.row 22 1 n [.own 801 n,.own 802 n,.own 803 n,.own 804 n,.own 805 n,.own 806 n])),(801,some (.row 3 1 n (mrow M n 0))),(802,some (.row 3 1 n (mrow M n 1))),(803,some (.row 3 1 n (mrow M n 2))),(804,some (.row 3 1 n (mrow M n 3))),(805,some (.row 3 1 n (mrow M n 4))),(806,some (.row 3 1 n (mrow M n 5)))]⟩ (Nm 118 ⟨[(108,.flat (.bool (decide (M x y=(r:Int))))),(1,.ref 1 0),(3,.flat (.int .i64 ((n:Nat):Int))),(4,.own 16 n),(7,.sl false 3 m SC),(8,.flat (.int .i64 ((r:Nat):Int))),(9,.flat (.int .i64 ((p:Nat):Int))),(10,.flat (.int .i64 ((q:Nat):Int))),(11,.flat (.int .i64 ((s:Nat):Int)))],[(1,some (.box [.sl false 1 rl LR,.sl false 1 n LB,.sl false 1 ta LT])),(16,some (.row 22 1 n [.own 801 n,.own 802 n,.own 803 n,.own 804 n,.own 805 n,.own 806 n])),(801,some (.row 3 1 n (mrow M n 0))),(802,some (.row 3 1 n (mrow M n 1))),(803,some (.row 3 1 n (mrow M n 2))),(804,some (.row 3 1 n (mrow M n 3))),(805,some (.row 3 1 n (mrow M n 4))),(806,some (.row 3 1 n (mrow M n 5)))]⟩):=by
 refine DW.sel hsel (by rfl) ?_
 have hv:=mrow_part (M:=M) (p:=x) hy
 generalize M x y=v at*
 rcases (show x=0∨x=1∨x=2∨x=3∨x=4∨x=5 by omega) with rfl|rfl|rfl|rfl|rfl|rfl
 all_goals
  have z0:=mrow_pers M n 0
  generalize mrow M n 0=R0 at*
  have z1:=mrow_pers M n 1
  generalize mrow M n 1=R1 at*
  have z2:=mrow_pers M n 2
  generalize mrow M n 2=R2 at*
  have z3:=mrow_pers M n 3
  generalize mrow M n 3=R3 at*
  have z4:=mrow_pers M n 4
  generalize mrow M n 4=R4 at*
  have z5:=mrow_pers M n 5
  generalize mrow M n 5=R5 at*
  refine DW.walk ?_
  exact Nm.mk Sub.auto
theorem far_w6 {cc:Code} (hsel:selC [1,1,1,1,1,0,1,2,2,1,0,2,1,2,2,1,0,2,1,2,2,1,0,2,1,2,2,1,0,2,1,0] code51=some cc) (n m rl ta r q s p:Nat) (hN:n=6) (LR LB LT SC:List D) (M:Nat→Nat→Int) (q1:persL LR=true) (q2:persL LB=true) (q3:persL LT=true) (q4:persL SC=true) (hm:m≤5000000) (hr:r<n) (hp:p<n) (hq:q<n) (hs:s<m):DW Try.prog 118 cc ⟨[(1,.ref 1 0),(3,.flat (.int .i64 ((n:Nat):Int))),(4,.own 16 n),(7,.sl false 3 m SC),(8,.flat (.int .i64 ((r:Nat):Int))),(9,.flat (.int .i64 ((p:Nat):Int))),(10,.flat (.int .i64 ((q:Nat):Int))),(11,.flat (.int .i64 ((s:Nat):Int)))],[(1,some (.box [.sl false 1 rl LR,.sl false 1 n LB,.sl false 1 ta LT])),(16,some (.row 22 1 n [.own 801 n,.own 802 n,.own 803 n,.own 804 n,.own 805 n,.own 806 n])),(801,some (.row 3 1 n (mrow M n 0))),(802,some (.row 3 1 n (mrow M n 1))),(803,some (.row 3 1 n (mrow M n 2))),(804,some (.row 3 1 n (mrow M n 3))),(805,some (.row 3 1 n (mrow M n 4))),(806,some (.row 3 1 n (mrow M n 5)))]⟩ (Nm 118 ⟨[(1,.ref 1 0),(3,.flat (.int .i64 ((n:Nat):Int))),(4,.own 16 n),(7,.sl false 3 m SC),(8,.flat (.int .i64 ((r:Nat):Int))),(9,.flat (.int .i64 ((p:Nat):Int))),(10,.flat (.int .i64 ((q:Nat):Int))),(11,.flat (.int .i64 ((s:Nat):Int)))],[(1,some (.box [.sl false 1 rl LR,.sl false 1 n LB,.sl false 1 ta LT])),(16,some (.row 22 1 n [.own 801 n,.own 802 n,.own 803 n,.own 804 n,.own 805 n,.own 806 n])),(801,some (.row 3 1 n (mrow (setM M p q ((r:Int)+1)) n 0))),(802,some (.row 3 1 n (mrow (setM M p q ((r:Int)+1)) n 1))),(803,some (.row 3 1 n (mrow (setM M p q ((r:Int)+1)) n 2))),(804,some (.row 3 1 n (mrow (setM M p q ((r:Int)+1)) n 3))),(805,some (.row 3 1 n (mrow (setM M p q ((r:Int)+1)) n 4))),(806,some (.row 3 1 n (mrow (setM M p q ((r:Int)+1)) n 5)))]⟩):=by
 refine DW.sel hsel (by rfl) ?_
 rcases (show p=0∨p=1∨p=2∨p=3∨p=4∨p=5 by omega) with rfl|rfl|rfl|rfl|rfl|rfl
 ·have hl:=mrow_len M n 0
  have hX:=mrow_set M (p:=0) ((r:Int)+1) hq
  have zX:=mrow_pers (setM M 0 q ((r:Int)+1)) n 0
  rw [mrow_ne M n q ((r:Int)+1) (show 1≠0 by decide),mrow_ne M n q ((r:Int)+1) (show 2≠0 by decide),mrow_ne M n q ((r:Int)+1) (show 3≠0 by decide),mrow_ne M n q ((r:Int)+1) (show 4≠0 by decide),mrow_ne M n q ((r:Int)+1) (show 5≠0 by decide)]
  generalize mrow (setM M 0 q ((r:Int)+1)) n 0=X at*
  have z0:=mrow_pers M n 0
  generalize mrow M n 0=R0 at*
  have z1:=mrow_pers M n 1
  generalize mrow M n 1=R1 at*
  have z2:=mrow_pers M n 2
  generalize mrow M n 2=R2 at*
  have z3:=mrow_pers M n 3
  generalize mrow M n 3=R3 at*
  have z4:=mrow_pers M n 4
  generalize mrow M n 4=R4 at*
  have z5:=mrow_pers M n 5
  generalize mrow M n 5=R5 at*
  refine DW.walk ?_
  rw [hX]
  exact Nm.mk Sub.auto
 ·have hl:=mrow_len M n 1
  have hX:=mrow_set M (p:=1) ((r:Int)+1) hq
  have zX:=mrow_pers (setM M 1 q ((r:Int)+1)) n 1
  rw [mrow_ne M n q ((r:Int)+1) (show 0≠1 by decide),mrow_ne M n q ((r:Int)+1) (show 2≠1 by decide),mrow_ne M n q ((r:Int)+1) (show 3≠1 by decide),mrow_ne M n q ((r:Int)+1) (show 4≠1 by decide),mrow_ne M n q ((r:Int)+1) (show 5≠1 by decide)]
  generalize mrow (setM M 1 q ((r:Int)+1)) n 1=X at*
  have z0:=mrow_pers M n 0
  generalize mrow M n 0=R0 at*
  have z1:=mrow_pers M n 1
  generalize mrow M n 1=R1 at*
  have z2:=mrow_pers M n 2
  generalize mrow M n 2=R2 at*
  have z3:=mrow_pers M n 3
  generalize mrow M n 3=R3 at*
  have z4:=mrow_pers M n 4
  generalize mrow M n 4=R4 at*
  have z5:=mrow_pers M n 5
  generalize mrow M n 5=R5 at*
  refine DW.walk ?_
  rw [hX]
  exact Nm.mk Sub.auto
 ·have hl:=mrow_len M n 2
  have hX:=mrow_set M (p:=2) ((r:Int)+1) hq
  have zX:=mrow_pers (setM M 2 q ((r:Int)+1)) n 2
  rw [mrow_ne M n q ((r:Int)+1) (show 0≠2 by decide),mrow_ne M n q ((r:Int)+1) (show 1≠2 by decide),mrow_ne M n q ((r:Int)+1) (show 3≠2 by decide),mrow_ne M n q ((r:Int)+1) (show 4≠2 by decide),mrow_ne M n q ((r:Int)+1) (show 5≠2 by decide)]
  generalize mrow (setM M 2 q ((r:Int)+1)) n 2=X at*
  have z0:=mrow_pers M n 0
  generalize mrow M n 0=R0 at*
  have z1:=mrow_pers M n 1
  generalize mrow M n 1=R1 at*
  have z2:=mrow_pers M n 2
  generalize mrow M n 2=R2 at*
  have z3:=mrow_pers M n 3
  generalize mrow M n 3=R3 at*
  have z4:=mrow_pers M n 4
  generalize mrow M n 4=R4 at*
  have z5:=mrow_pers M n 5
  generalize mrow M n 5=R5 at*
  refine DW.walk ?_
  rw [hX]
  exact Nm.mk Sub.auto
 ·have hl:=mrow_len M n 3
  have hX:=mrow_set M (p:=3) ((r:Int)+1) hq
  have zX:=mrow_pers (setM M 3 q ((r:Int)+1)) n 3
  rw [mrow_ne M n q ((r:Int)+1) (show 0≠3 by decide),mrow_ne M n q ((r:Int)+1) (show 1≠3 by decide),mrow_ne M n q ((r:Int)+1) (show 2≠3 by decide),mrow_ne M n q ((r:Int)+1) (show 4≠3 by decide),mrow_ne M n q ((r:Int)+1) (show 5≠3 by decide)]
  generalize mrow (setM M 3 q ((r:Int)+1)) n 3=X at*
  have z0:=mrow_pers M n 0
  generalize mrow M n 0=R0 at*
  have z1:=mrow_pers M n 1
  generalize mrow M n 1=R1 at*
  have z2:=mrow_pers M n 2
  generalize mrow M n 2=R2 at*
  have z3:=mrow_pers M n 3
  generalize mrow M n 3=R3 at*
  have z4:=mrow_pers M n 4
  generalize mrow M n 4=R4 at*
  have z5:=mrow_pers M n 5
  generalize mrow M n 5=R5 at*
  refine DW.walk ?_
  rw [hX]
  exact Nm.mk Sub.auto
 ·have hl:=mrow_len M n 4
  have hX:=mrow_set M (p:=4) ((r:Int)+1) hq
  have zX:=mrow_pers (setM M 4 q ((r:Int)+1)) n 4
  rw [mrow_ne M n q ((r:Int)+1) (show 0≠4 by decide),mrow_ne M n q ((r:Int)+1) (show 1≠4 by decide),mrow_ne M n q ((r:Int)+1) (show 2≠4 by decide),mrow_ne M n q ((r:Int)+1) (show 3≠4 by decide),mrow_ne M n q ((r:Int)+1) (show 5≠4 by decide)]
  generalize mrow (setM M 4 q ((r:Int)+1)) n 4=X at*
  have z0:=mrow_pers M n 0
  generalize mrow M n 0=R0 at*
  have z1:=mrow_pers M n 1
  generalize mrow M n 1=R1 at*
  have z2:=mrow_pers M n 2
  generalize mrow M n 2=R2 at*
  have z3:=mrow_pers M n 3
  generalize mrow M n 3=R3 at*
  have z4:=mrow_pers M n 4
  generalize mrow M n 4=R4 at*
  have z5:=mrow_pers M n 5
  generalize mrow M n 5=R5 at*
  refine DW.walk ?_
  rw [hX]
  exact Nm.mk Sub.auto
 ·have hl:=mrow_len M n 5
  have hX:=mrow_set M (p:=5) ((r:Int)+1) hq
  have zX:=mrow_pers (setM M 5 q ((r:Int)+1)) n 5
  rw [mrow_ne M n q ((r:Int)+1) (show 0≠5 by decide),mrow_ne M n q ((r:Int)+1) (show 1≠5 by decide),mrow_ne M n q ((r:Int)+1) (show 2≠5 by decide),mrow_ne M n q ((r:Int)+1) (show 3≠5 by decide),mrow_ne M n q ((r:Int)+1) (show 4≠5 by decide)]
  generalize mrow (setM M 5 q ((r:Int)+1)) n 5=X at*
  have z0:=mrow_pers M n 0
  generalize mrow M n 0=R0 at*
  have z1:=mrow_pers M n 1
  generalize mrow M n 1=R1 at*
  have z2:=mrow_pers M n 2
  generalize mrow M n 2=R2 at*
  have z3:=mrow_pers M n 3
  generalize mrow M n 3=R3 at*
  have z4:=mrow_pers M n 4
  generalize mrow M n 4=R4 at*
  have z5:=mrow_pers M n 5
  generalize mrow M n 5=R5 at*
  refine DW.walk ?_
  rw [hX]
  exact Nm.mk Sub.auto
end Go.Proofs.Ytichhfbkhnimmaa
