/- The table of distances: single steps at 4 states. No condition. -/
import Derived.Test.YtichhfbkhnimmaaYFA3
set_option linter.unusedSimpArgs false
set_option linter.unusedVariables false
set_option maxHeartbeats 4000000
set_option maxRecDepth 8000
namespace Go.Proofs.Ytichhfbkhnimmaa
open Go Go.RowKit Go.PP Go.Dm Go.Rt Go.Mn
abbrev eT4 (rl n ta:Nat) (LR LB LT:List D) (M:Nat→Nat→Int):Sg:=[(1,some (.box [.sl false 1 rl LR,.sl false 1 n LB,.sl false 1 ta LT])),(16,some (.row 22 1 n [.own 801 n,.own 802 n,.own 803 n,.own 804 n])),(801,some (.row 3 1 n (mrow M n 0))),(802,some (.row 3 1 n (mrow M n 1))),(803,some (.row 3 1 n (mrow M n 2))),(804,some (.row 3 1 n (mrow M n 3)))]
theorem w7_ {cc:Code} (hsel:selC [1,1,1,1,1,0,1,2,2,1,0,2,1,2,2,1,0,2,1,2,2,1,0,2,1,2,2,0,0] ap_=some cc) (n m rl ta r q s p:Nat) (hN:n=4) (LR LB LT SC:List D) (M:Nat→Nat→Int) (q1:persL LR=true) (q2:persL LB=true) (q3:persL LT=true) (q4:persL SC=true) (hm:m≤5000000) (hr:r<n) (hp:p<n) (hq:q<n) (hs:s<m):DW Try.prog 118 cc ⟨(sS n m r p q s SC),(eT4 rl n ta LR LB LT M)⟩ (Nm 118 ⟨(85,.flat (.bool (decide (M p q<0))))::(sS n m r p q s SC),(eT4 rl n ta LR LB LT M)⟩):=by
 refine DW.sel hsel (by rfl) ?_
 dsimp only [eT4,sS]
 have hv:=bg_ (M:=M) (p:=p) hq
 generalize M p q=v at*
 rcases (show p=0∨p=1∨p=2∨p=3 by omega) with rfl|rfl|rfl|rfl
 all_goals
  have z0:=aa_ M n 0
  generalize mrow M n 0=R0 at*
  have z1:=aa_ M n 1
  generalize mrow M n 1=R1 at*
  have z2:=aa_ M n 2
  generalize mrow M n 2=R2 at*
  have z3:=aa_ M n 3
  generalize mrow M n 3=R3 at*
  refine DW.walk ?_
  exact Nm.mk Sub.auto
theorem aa0 {cc:Code} (hsel:selC [1,1,1,1,1,0,1,2,2,1,0,2,1,2,2,1,0,2,1,2,2,1,0,2,1,2,2,1,0,2,0] ap_=some cc) (n m rl ta r q s p:Nat) (hN:n=4) (LR LB LT SC:List D) (M:Nat→Nat→Int) (q1:persL LR=true) (q2:persL LB=true) (q3:persL LT=true) (q4:persL SC=true) (hm:m≤5000000) (hr:r<n) (hp:p<n) (hq:q<n) (hs:s<m) (sy sa so:Int) (x y:Nat) (hx:x<n) (hy:y<n) (hst:partD true 3 (s*3) SC=some (.agg [.flat (.int .i64 sy),.flat (.int .i64 sa),.flat (.int .i64 so)])) (hgx:DFun Try.prog 23 [.agg [.sl false 1 rl LR,.sl false 1 n LB,.sl false 1 ta LT],.agg [.flat (.int .i64 sy),.flat (.int .i64 sa),.flat (.int .i64 so)],.flat (.int .i64 ((p:Nat):Int))] (.flat (.int .i64 ((x:Nat):Int)))) (hgy:DFun Try.prog 23 [.agg [.sl false 1 rl LR,.sl false 1 n LB,.sl false 1 ta LT],.agg [.flat (.int .i64 sy),.flat (.int .i64 sa),.flat (.int .i64 so)],.flat (.int .i64 ((q:Nat):Int))] (.flat (.int .i64 ((y:Nat):Int)))):DW Try.prog 118 cc ⟨(sS n m r p q s SC),(eT4 rl n ta LR LB LT M)⟩ (Nm 118 ⟨(108,.flat (.bool (decide (M x y=(r:Int)))))::(sS n m r p q s SC),(eT4 rl n ta LR LB LT M)⟩):=by
 refine DW.sel hsel (by rfl) ?_
 dsimp only [eT4,sS]
 have hv:=bg_ (M:=M) (p:=x) hy
 generalize M x y=v at*
 rcases (show x=0∨x=1∨x=2∨x=3 by omega) with rfl|rfl|rfl|rfl
 all_goals
  have z0:=aa_ M n 0
  generalize mrow M n 0=R0 at*
  have z1:=aa_ M n 1
  generalize mrow M n 1=R1 at*
  have z2:=aa_ M n 2
  generalize mrow M n 2=R2 at*
  have z3:=aa_ M n 3
  generalize mrow M n 3=R3 at*
  refine DW.walk ?_
  exact Nm.mk Sub.auto
theorem abq {cc:Code} (hsel:selC [1,1,1,1,1,0,1,2,2,1,0,2,1,2,2,1,0,2,1,2,2,1,0,2,1,2,2,1,0,2,1,0] ap_=some cc) (n m rl ta r q s p:Nat) (hN:n=4) (LR LB LT SC:List D) (M:Nat→Nat→Int) (q1:persL LR=true) (q2:persL LB=true) (q3:persL LT=true) (q4:persL SC=true) (hm:m≤5000000) (hr:r<n) (hp:p<n) (hq:q<n) (hs:s<m):DW Try.prog 118 cc ⟨(sS n m r p q s SC),(eT4 rl n ta LR LB LT M)⟩ (Nm 118 ⟨(sS n m r p q s SC),(eT4 rl n ta LR LB LT (setM M p q ((r:Int)+1)))⟩):=by
 refine DW.sel hsel (by rfl) ?_
 dsimp only [eT4,sS]
 rcases (show p=0∨p=1∨p=2∨p=3 by omega) with rfl|rfl|rfl|rfl
 ·have hl:=a6_ M n 0
  have hX:=a8_ M (p:=0) ((r:Int)+1) hq
  have zX:=aa_ (setM M 0 q ((r:Int)+1)) n 0
  rw [am_ M n q ((r:Int)+1) (show 1≠0 by decide),am_ M n q ((r:Int)+1) (show 2≠0 by decide),am_ M n q ((r:Int)+1) (show 3≠0 by decide)]
  generalize mrow (setM M 0 q ((r:Int)+1)) n 0=X at*
  have z0:=aa_ M n 0
  generalize mrow M n 0=R0 at*
  have z1:=aa_ M n 1
  generalize mrow M n 1=R1 at*
  have z2:=aa_ M n 2
  generalize mrow M n 2=R2 at*
  have z3:=aa_ M n 3
  generalize mrow M n 3=R3 at*
  refine DW.walk ?_
  rw [hX]
  exact Nm.mk Sub.auto
 ·have hl:=a6_ M n 1
  have hX:=a8_ M (p:=1) ((r:Int)+1) hq
  have zX:=aa_ (setM M 1 q ((r:Int)+1)) n 1
  rw [am_ M n q ((r:Int)+1) (show 0≠1 by decide),am_ M n q ((r:Int)+1) (show 2≠1 by decide),am_ M n q ((r:Int)+1) (show 3≠1 by decide)]
  generalize mrow (setM M 1 q ((r:Int)+1)) n 1=X at*
  have z0:=aa_ M n 0
  generalize mrow M n 0=R0 at*
  have z1:=aa_ M n 1
  generalize mrow M n 1=R1 at*
  have z2:=aa_ M n 2
  generalize mrow M n 2=R2 at*
  have z3:=aa_ M n 3
  generalize mrow M n 3=R3 at*
  refine DW.walk ?_
  rw [hX]
  exact Nm.mk Sub.auto
 ·have hl:=a6_ M n 2
  have hX:=a8_ M (p:=2) ((r:Int)+1) hq
  have zX:=aa_ (setM M 2 q ((r:Int)+1)) n 2
  rw [am_ M n q ((r:Int)+1) (show 0≠2 by decide),am_ M n q ((r:Int)+1) (show 1≠2 by decide),am_ M n q ((r:Int)+1) (show 3≠2 by decide)]
  generalize mrow (setM M 2 q ((r:Int)+1)) n 2=X at*
  have z0:=aa_ M n 0
  generalize mrow M n 0=R0 at*
  have z1:=aa_ M n 1
  generalize mrow M n 1=R1 at*
  have z2:=aa_ M n 2
  generalize mrow M n 2=R2 at*
  have z3:=aa_ M n 3
  generalize mrow M n 3=R3 at*
  refine DW.walk ?_
  rw [hX]
  exact Nm.mk Sub.auto
 ·have hl:=a6_ M n 3
  have hX:=a8_ M (p:=3) ((r:Int)+1) hq
  have zX:=aa_ (setM M 3 q ((r:Int)+1)) n 3
  rw [am_ M n q ((r:Int)+1) (show 0≠3 by decide),am_ M n q ((r:Int)+1) (show 1≠3 by decide),am_ M n q ((r:Int)+1) (show 2≠3 by decide)]
  generalize mrow (setM M 3 q ((r:Int)+1)) n 3=X at*
  have z0:=aa_ M n 0
  generalize mrow M n 0=R0 at*
  have z1:=aa_ M n 1
  generalize mrow M n 1=R1 at*
  have z2:=aa_ M n 2
  generalize mrow M n 2=R2 at*
  have z3:=aa_ M n 3
  generalize mrow M n 3=R3 at*
  refine DW.walk ?_
  rw [hX]
  exact Nm.mk Sub.auto
abbrev eT5 (rl n ta:Nat) (LR LB LT:List D) (M:Nat→Nat→Int):Sg:=[(1,some (.box [.sl false 1 rl LR,.sl false 1 n LB,.sl false 1 ta LT])),(16,some (.row 22 1 n [.own 801 n,.own 802 n,.own 803 n,.own 804 n,.own 805 n])),(801,some (.row 3 1 n (mrow M n 0))),(802,some (.row 3 1 n (mrow M n 1))),(803,some (.row 3 1 n (mrow M n 2))),(804,some (.row 3 1 n (mrow M n 3))),(805,some (.row 3 1 n (mrow M n 4)))]
theorem wq_ {cc:Code} (hsel:selC [1,1,1,1,1,0,1,2,2,1,0,2,1,2,2,1,0,2,1,2,2,1,0,2,1,2,2,0,0] ap_=some cc) (n m rl ta r q s p:Nat) (hN:n=5) (LR LB LT SC:List D) (M:Nat→Nat→Int) (q1:persL LR=true) (q2:persL LB=true) (q3:persL LT=true) (q4:persL SC=true) (hm:m≤5000000) (hr:r<n) (hp:p<n) (hq:q<n) (hs:s<m):DW Try.prog 118 cc ⟨(sS n m r p q s SC),(eT5 rl n ta LR LB LT M)⟩ (Nm 118 ⟨(85,.flat (.bool (decide (M p q<0))))::(sS n m r p q s SC),(eT5 rl n ta LR LB LT M)⟩):=by
 refine DW.sel hsel (by rfl) ?_
 dsimp only [eT5,sS]
 have hv:=bg_ (M:=M) (p:=p) hq
 generalize M p q=v at*
 rcases (show p=0∨p=1∨p=2∨p=3∨p=4 by omega) with rfl|rfl|rfl|rfl|rfl
 all_goals
  have z0:=aa_ M n 0
  generalize mrow M n 0=R0 at*
  have z1:=aa_ M n 1
  generalize mrow M n 1=R1 at*
  have z2:=aa_ M n 2
  generalize mrow M n 2=R2 at*
  have z3:=aa_ M n 3
  generalize mrow M n 3=R3 at*
  have z4:=aa_ M n 4
  generalize mrow M n 4=R4 at*
  refine DW.walk ?_
  exact Nm.mk Sub.auto
theorem aco {cc:Code} (hsel:selC [1,1,1,1,1,0,1,2,2,1,0,2,1,2,2,1,0,2,1,2,2,1,0,2,1,2,2,1,0,2,0] ap_=some cc) (n m rl ta r q s p:Nat) (hN:n=5) (LR LB LT SC:List D) (M:Nat→Nat→Int) (q1:persL LR=true) (q2:persL LB=true) (q3:persL LT=true) (q4:persL SC=true) (hm:m≤5000000) (hr:r<n) (hp:p<n) (hq:q<n) (hs:s<m) (sy sa so:Int) (x y:Nat) (hx:x<n) (hy:y<n) (hst:partD true 3 (s*3) SC=some (.agg [.flat (.int .i64 sy),.flat (.int .i64 sa),.flat (.int .i64 so)])) (hgx:DFun Try.prog 23 [.agg [.sl false 1 rl LR,.sl false 1 n LB,.sl false 1 ta LT],.agg [.flat (.int .i64 sy),.flat (.int .i64 sa),.flat (.int .i64 so)],.flat (.int .i64 ((p:Nat):Int))] (.flat (.int .i64 ((x:Nat):Int)))) (hgy:DFun Try.prog 23 [.agg [.sl false 1 rl LR,.sl false 1 n LB,.sl false 1 ta LT],.agg [.flat (.int .i64 sy),.flat (.int .i64 sa),.flat (.int .i64 so)],.flat (.int .i64 ((q:Nat):Int))] (.flat (.int .i64 ((y:Nat):Int)))):DW Try.prog 118 cc ⟨(sS n m r p q s SC),(eT5 rl n ta LR LB LT M)⟩ (Nm 118 ⟨(108,.flat (.bool (decide (M x y=(r:Int)))))::(sS n m r p q s SC),(eT5 rl n ta LR LB LT M)⟩):=by
 refine DW.sel hsel (by rfl) ?_
 dsimp only [eT5,sS]
 have hv:=bg_ (M:=M) (p:=x) hy
 generalize M x y=v at*
 rcases (show x=0∨x=1∨x=2∨x=3∨x=4 by omega) with rfl|rfl|rfl|rfl|rfl
 all_goals
  have z0:=aa_ M n 0
  generalize mrow M n 0=R0 at*
  have z1:=aa_ M n 1
  generalize mrow M n 1=R1 at*
  have z2:=aa_ M n 2
  generalize mrow M n 2=R2 at*
  have z3:=aa_ M n 3
  generalize mrow M n 3=R3 at*
  have z4:=aa_ M n 4
  generalize mrow M n 4=R4 at*
  refine DW.walk ?_
  exact Nm.mk Sub.auto
theorem aca {cc:Code} (hsel:selC [1,1,1,1,1,0,1,2,2,1,0,2,1,2,2,1,0,2,1,2,2,1,0,2,1,2,2,1,0,2,1,0] ap_=some cc) (n m rl ta r q s p:Nat) (hN:n=5) (LR LB LT SC:List D) (M:Nat→Nat→Int) (q1:persL LR=true) (q2:persL LB=true) (q3:persL LT=true) (q4:persL SC=true) (hm:m≤5000000) (hr:r<n) (hp:p<n) (hq:q<n) (hs:s<m):DW Try.prog 118 cc ⟨(sS n m r p q s SC),(eT5 rl n ta LR LB LT M)⟩ (Nm 118 ⟨(sS n m r p q s SC),(eT5 rl n ta LR LB LT (setM M p q ((r:Int)+1)))⟩):=by
 refine DW.sel hsel (by rfl) ?_
 dsimp only [eT5,sS]
 rcases (show p=0∨p=1∨p=2∨p=3∨p=4 by omega) with rfl|rfl|rfl|rfl|rfl
 ·have hl:=a6_ M n 0
  have hX:=a8_ M (p:=0) ((r:Int)+1) hq
  have zX:=aa_ (setM M 0 q ((r:Int)+1)) n 0
  rw [am_ M n q ((r:Int)+1) (show 1≠0 by decide),am_ M n q ((r:Int)+1) (show 2≠0 by decide),am_ M n q ((r:Int)+1) (show 3≠0 by decide),am_ M n q ((r:Int)+1) (show 4≠0 by decide)]
  generalize mrow (setM M 0 q ((r:Int)+1)) n 0=X at*
  have z0:=aa_ M n 0
  generalize mrow M n 0=R0 at*
  have z1:=aa_ M n 1
  generalize mrow M n 1=R1 at*
  have z2:=aa_ M n 2
  generalize mrow M n 2=R2 at*
  have z3:=aa_ M n 3
  generalize mrow M n 3=R3 at*
  have z4:=aa_ M n 4
  generalize mrow M n 4=R4 at*
  refine DW.walk ?_
  rw [hX]
  exact Nm.mk Sub.auto
 ·have hl:=a6_ M n 1
  have hX:=a8_ M (p:=1) ((r:Int)+1) hq
  have zX:=aa_ (setM M 1 q ((r:Int)+1)) n 1
  rw [am_ M n q ((r:Int)+1) (show 0≠1 by decide),am_ M n q ((r:Int)+1) (show 2≠1 by decide),am_ M n q ((r:Int)+1) (show 3≠1 by decide),am_ M n q ((r:Int)+1) (show 4≠1 by decide)]
  generalize mrow (setM M 1 q ((r:Int)+1)) n 1=X at*
  have z0:=aa_ M n 0
  generalize mrow M n 0=R0 at*
  have z1:=aa_ M n 1
  generalize mrow M n 1=R1 at*
  have z2:=aa_ M n 2
  generalize mrow M n 2=R2 at*
  have z3:=aa_ M n 3
  generalize mrow M n 3=R3 at*
  have z4:=aa_ M n 4
  generalize mrow M n 4=R4 at*
  refine DW.walk ?_
  rw [hX]
  exact Nm.mk Sub.auto
 ·have hl:=a6_ M n 2
  have hX:=a8_ M (p:=2) ((r:Int)+1) hq
  have zX:=aa_ (setM M 2 q ((r:Int)+1)) n 2
  rw [am_ M n q ((r:Int)+1) (show 0≠2 by decide),am_ M n q ((r:Int)+1) (show 1≠2 by decide),am_ M n q ((r:Int)+1) (show 3≠2 by decide),am_ M n q ((r:Int)+1) (show 4≠2 by decide)]
  generalize mrow (setM M 2 q ((r:Int)+1)) n 2=X at*
  have z0:=aa_ M n 0
  generalize mrow M n 0=R0 at*
  have z1:=aa_ M n 1
  generalize mrow M n 1=R1 at*
  have z2:=aa_ M n 2
  generalize mrow M n 2=R2 at*
  have z3:=aa_ M n 3
  generalize mrow M n 3=R3 at*
  have z4:=aa_ M n 4
  generalize mrow M n 4=R4 at*
  refine DW.walk ?_
  rw [hX]
  exact Nm.mk Sub.auto
 ·have hl:=a6_ M n 3
  have hX:=a8_ M (p:=3) ((r:Int)+1) hq
  have zX:=aa_ (setM M 3 q ((r:Int)+1)) n 3
  rw [am_ M n q ((r:Int)+1) (show 0≠3 by decide),am_ M n q ((r:Int)+1) (show 1≠3 by decide),am_ M n q ((r:Int)+1) (show 2≠3 by decide),am_ M n q ((r:Int)+1) (show 4≠3 by decide)]
  generalize mrow (setM M 3 q ((r:Int)+1)) n 3=X at*
  have z0:=aa_ M n 0
  generalize mrow M n 0=R0 at*
  have z1:=aa_ M n 1
  generalize mrow M n 1=R1 at*
  have z2:=aa_ M n 2
  generalize mrow M n 2=R2 at*
  have z3:=aa_ M n 3
  generalize mrow M n 3=R3 at*
  have z4:=aa_ M n 4
  generalize mrow M n 4=R4 at*
  refine DW.walk ?_
  rw [hX]
  exact Nm.mk Sub.auto
 ·have hl:=a6_ M n 4
  have hX:=a8_ M (p:=4) ((r:Int)+1) hq
  have zX:=aa_ (setM M 4 q ((r:Int)+1)) n 4
  rw [am_ M n q ((r:Int)+1) (show 0≠4 by decide),am_ M n q ((r:Int)+1) (show 1≠4 by decide),am_ M n q ((r:Int)+1) (show 2≠4 by decide),am_ M n q ((r:Int)+1) (show 3≠4 by decide)]
  generalize mrow (setM M 4 q ((r:Int)+1)) n 4=X at*
  have z0:=aa_ M n 0
  generalize mrow M n 0=R0 at*
  have z1:=aa_ M n 1
  generalize mrow M n 1=R1 at*
  have z2:=aa_ M n 2
  generalize mrow M n 2=R2 at*
  have z3:=aa_ M n 3
  generalize mrow M n 3=R3 at*
  have z4:=aa_ M n 4
  generalize mrow M n 4=R4 at*
  refine DW.walk ?_
  rw [hX]
  exact Nm.mk Sub.auto
abbrev eT6 (rl n ta:Nat) (LR LB LT:List D) (M:Nat→Nat→Int):Sg:=[(1,some (.box [.sl false 1 rl LR,.sl false 1 n LB,.sl false 1 ta LT])),(16,some (.row 22 1 n [.own 801 n,.own 802 n,.own 803 n,.own 804 n,.own 805 n,.own 806 n])),(801,some (.row 3 1 n (mrow M n 0))),(802,some (.row 3 1 n (mrow M n 1))),(803,some (.row 3 1 n (mrow M n 2))),(804,some (.row 3 1 n (mrow M n 3))),(805,some (.row 3 1 n (mrow M n 4))),(806,some (.row 3 1 n (mrow M n 5)))]
theorem wn_ {cc:Code} (hsel:selC [1,1,1,1,1,0,1,2,2,1,0,2,1,2,2,1,0,2,1,2,2,1,0,2,1,2,2,0,0] ap_=some cc) (n m rl ta r q s p:Nat) (hN:n=6) (LR LB LT SC:List D) (M:Nat→Nat→Int) (q1:persL LR=true) (q2:persL LB=true) (q3:persL LT=true) (q4:persL SC=true) (hm:m≤5000000) (hr:r<n) (hp:p<n) (hq:q<n) (hs:s<m):DW Try.prog 118 cc ⟨(sS n m r p q s SC),(eT6 rl n ta LR LB LT M)⟩ (Nm 118 ⟨(85,.flat (.bool (decide (M p q<0))))::(sS n m r p q s SC),(eT6 rl n ta LR LB LT M)⟩):=by
 refine DW.sel hsel (by rfl) ?_
 dsimp only [eT6,sS]
 have hv:=bg_ (M:=M) (p:=p) hq
 generalize M p q=v at*
 rcases (show p=0∨p=1∨p=2∨p=3∨p=4∨p=5 by omega) with rfl|rfl|rfl|rfl|rfl|rfl
 all_goals
  have z0:=aa_ M n 0
  generalize mrow M n 0=R0 at*
  have z1:=aa_ M n 1
  generalize mrow M n 1=R1 at*
  have z2:=aa_ M n 2
  generalize mrow M n 2=R2 at*
  have z3:=aa_ M n 3
  generalize mrow M n 3=R3 at*
  have z4:=aa_ M n 4
  generalize mrow M n 4=R4 at*
  have z5:=aa_ M n 5
  generalize mrow M n 5=R5 at*
  refine DW.walk ?_
  exact Nm.mk Sub.auto
theorem z1_ {cc:Code} (hsel:selC [1,1,1,1,1,0,1,2,2,1,0,2,1,2,2,1,0,2,1,2,2,1,0,2,1,2,2,1,0,2,0] ap_=some cc) (n m rl ta r q s p:Nat) (hN:n=6) (LR LB LT SC:List D) (M:Nat→Nat→Int) (q1:persL LR=true) (q2:persL LB=true) (q3:persL LT=true) (q4:persL SC=true) (hm:m≤5000000) (hr:r<n) (hp:p<n) (hq:q<n) (hs:s<m) (sy sa so:Int) (x y:Nat) (hx:x<n) (hy:y<n) (hst:partD true 3 (s*3) SC=some (.agg [.flat (.int .i64 sy),.flat (.int .i64 sa),.flat (.int .i64 so)])) (hgx:DFun Try.prog 23 [.agg [.sl false 1 rl LR,.sl false 1 n LB,.sl false 1 ta LT],.agg [.flat (.int .i64 sy),.flat (.int .i64 sa),.flat (.int .i64 so)],.flat (.int .i64 ((p:Nat):Int))] (.flat (.int .i64 ((x:Nat):Int)))) (hgy:DFun Try.prog 23 [.agg [.sl false 1 rl LR,.sl false 1 n LB,.sl false 1 ta LT],.agg [.flat (.int .i64 sy),.flat (.int .i64 sa),.flat (.int .i64 so)],.flat (.int .i64 ((q:Nat):Int))] (.flat (.int .i64 ((y:Nat):Int)))):DW Try.prog 118 cc ⟨(sS n m r p q s SC),(eT6 rl n ta LR LB LT M)⟩ (Nm 118 ⟨(108,.flat (.bool (decide (M x y=(r:Int)))))::(sS n m r p q s SC),(eT6 rl n ta LR LB LT M)⟩):=by
 refine DW.sel hsel (by rfl) ?_
 dsimp only [eT6,sS]
 have hv:=bg_ (M:=M) (p:=x) hy
 generalize M x y=v at*
 rcases (show x=0∨x=1∨x=2∨x=3∨x=4∨x=5 by omega) with rfl|rfl|rfl|rfl|rfl|rfl
 all_goals
  have z0:=aa_ M n 0
  generalize mrow M n 0=R0 at*
  have z1:=aa_ M n 1
  generalize mrow M n 1=R1 at*
  have z2:=aa_ M n 2
  generalize mrow M n 2=R2 at*
  have z3:=aa_ M n 3
  generalize mrow M n 3=R3 at*
  have z4:=aa_ M n 4
  generalize mrow M n 4=R4 at*
  have z5:=aa_ M n 5
  generalize mrow M n 5=R5 at*
  refine DW.walk ?_
  exact Nm.mk Sub.auto
theorem aaw {cc:Code} (hsel:selC [1,1,1,1,1,0,1,2,2,1,0,2,1,2,2,1,0,2,1,2,2,1,0,2,1,2,2,1,0,2,1,0] ap_=some cc) (n m rl ta r q s p:Nat) (hN:n=6) (LR LB LT SC:List D) (M:Nat→Nat→Int) (q1:persL LR=true) (q2:persL LB=true) (q3:persL LT=true) (q4:persL SC=true) (hm:m≤5000000) (hr:r<n) (hp:p<n) (hq:q<n) (hs:s<m):DW Try.prog 118 cc ⟨(sS n m r p q s SC),(eT6 rl n ta LR LB LT M)⟩ (Nm 118 ⟨(sS n m r p q s SC),(eT6 rl n ta LR LB LT (setM M p q ((r:Int)+1)))⟩):=by
 refine DW.sel hsel (by rfl) ?_
 dsimp only [eT6,sS]
 rcases (show p=0∨p=1∨p=2∨p=3∨p=4∨p=5 by omega) with rfl|rfl|rfl|rfl|rfl|rfl
 ·have hl:=a6_ M n 0
  have hX:=a8_ M (p:=0) ((r:Int)+1) hq
  have zX:=aa_ (setM M 0 q ((r:Int)+1)) n 0
  rw [am_ M n q ((r:Int)+1) (show 1≠0 by decide),am_ M n q ((r:Int)+1) (show 2≠0 by decide),am_ M n q ((r:Int)+1) (show 3≠0 by decide),am_ M n q ((r:Int)+1) (show 4≠0 by decide),am_ M n q ((r:Int)+1) (show 5≠0 by decide)]
  generalize mrow (setM M 0 q ((r:Int)+1)) n 0=X at*
  have z0:=aa_ M n 0
  generalize mrow M n 0=R0 at*
  have z1:=aa_ M n 1
  generalize mrow M n 1=R1 at*
  have z2:=aa_ M n 2
  generalize mrow M n 2=R2 at*
  have z3:=aa_ M n 3
  generalize mrow M n 3=R3 at*
  have z4:=aa_ M n 4
  generalize mrow M n 4=R4 at*
  have z5:=aa_ M n 5
  generalize mrow M n 5=R5 at*
  refine DW.walk ?_
  rw [hX]
  exact Nm.mk Sub.auto
 ·have hl:=a6_ M n 1
  have hX:=a8_ M (p:=1) ((r:Int)+1) hq
  have zX:=aa_ (setM M 1 q ((r:Int)+1)) n 1
  rw [am_ M n q ((r:Int)+1) (show 0≠1 by decide),am_ M n q ((r:Int)+1) (show 2≠1 by decide),am_ M n q ((r:Int)+1) (show 3≠1 by decide),am_ M n q ((r:Int)+1) (show 4≠1 by decide),am_ M n q ((r:Int)+1) (show 5≠1 by decide)]
  generalize mrow (setM M 1 q ((r:Int)+1)) n 1=X at*
  have z0:=aa_ M n 0
  generalize mrow M n 0=R0 at*
  have z1:=aa_ M n 1
  generalize mrow M n 1=R1 at*
  have z2:=aa_ M n 2
  generalize mrow M n 2=R2 at*
  have z3:=aa_ M n 3
  generalize mrow M n 3=R3 at*
  have z4:=aa_ M n 4
  generalize mrow M n 4=R4 at*
  have z5:=aa_ M n 5
  generalize mrow M n 5=R5 at*
  refine DW.walk ?_
  rw [hX]
  exact Nm.mk Sub.auto
 ·have hl:=a6_ M n 2
  have hX:=a8_ M (p:=2) ((r:Int)+1) hq
  have zX:=aa_ (setM M 2 q ((r:Int)+1)) n 2
  rw [am_ M n q ((r:Int)+1) (show 0≠2 by decide),am_ M n q ((r:Int)+1) (show 1≠2 by decide),am_ M n q ((r:Int)+1) (show 3≠2 by decide),am_ M n q ((r:Int)+1) (show 4≠2 by decide),am_ M n q ((r:Int)+1) (show 5≠2 by decide)]
  generalize mrow (setM M 2 q ((r:Int)+1)) n 2=X at*
  have z0:=aa_ M n 0
  generalize mrow M n 0=R0 at*
  have z1:=aa_ M n 1
  generalize mrow M n 1=R1 at*
  have z2:=aa_ M n 2
  generalize mrow M n 2=R2 at*
  have z3:=aa_ M n 3
  generalize mrow M n 3=R3 at*
  have z4:=aa_ M n 4
  generalize mrow M n 4=R4 at*
  have z5:=aa_ M n 5
  generalize mrow M n 5=R5 at*
  refine DW.walk ?_
  rw [hX]
  exact Nm.mk Sub.auto
 ·have hl:=a6_ M n 3
  have hX:=a8_ M (p:=3) ((r:Int)+1) hq
  have zX:=aa_ (setM M 3 q ((r:Int)+1)) n 3
  rw [am_ M n q ((r:Int)+1) (show 0≠3 by decide),am_ M n q ((r:Int)+1) (show 1≠3 by decide),am_ M n q ((r:Int)+1) (show 2≠3 by decide),am_ M n q ((r:Int)+1) (show 4≠3 by decide),am_ M n q ((r:Int)+1) (show 5≠3 by decide)]
  generalize mrow (setM M 3 q ((r:Int)+1)) n 3=X at*
  have z0:=aa_ M n 0
  generalize mrow M n 0=R0 at*
  have z1:=aa_ M n 1
  generalize mrow M n 1=R1 at*
  have z2:=aa_ M n 2
  generalize mrow M n 2=R2 at*
  have z3:=aa_ M n 3
  generalize mrow M n 3=R3 at*
  have z4:=aa_ M n 4
  generalize mrow M n 4=R4 at*
  have z5:=aa_ M n 5
  generalize mrow M n 5=R5 at*
  refine DW.walk ?_
  rw [hX]
  exact Nm.mk Sub.auto
 ·have hl:=a6_ M n 4
  have hX:=a8_ M (p:=4) ((r:Int)+1) hq
  have zX:=aa_ (setM M 4 q ((r:Int)+1)) n 4
  rw [am_ M n q ((r:Int)+1) (show 0≠4 by decide),am_ M n q ((r:Int)+1) (show 1≠4 by decide),am_ M n q ((r:Int)+1) (show 2≠4 by decide),am_ M n q ((r:Int)+1) (show 3≠4 by decide),am_ M n q ((r:Int)+1) (show 5≠4 by decide)]
  generalize mrow (setM M 4 q ((r:Int)+1)) n 4=X at*
  have z0:=aa_ M n 0
  generalize mrow M n 0=R0 at*
  have z1:=aa_ M n 1
  generalize mrow M n 1=R1 at*
  have z2:=aa_ M n 2
  generalize mrow M n 2=R2 at*
  have z3:=aa_ M n 3
  generalize mrow M n 3=R3 at*
  have z4:=aa_ M n 4
  generalize mrow M n 4=R4 at*
  have z5:=aa_ M n 5
  generalize mrow M n 5=R5 at*
  refine DW.walk ?_
  rw [hX]
  exact Nm.mk Sub.auto
 ·have hl:=a6_ M n 5
  have hX:=a8_ M (p:=5) ((r:Int)+1) hq
  have zX:=aa_ (setM M 5 q ((r:Int)+1)) n 5
  rw [am_ M n q ((r:Int)+1) (show 0≠5 by decide),am_ M n q ((r:Int)+1) (show 1≠5 by decide),am_ M n q ((r:Int)+1) (show 2≠5 by decide),am_ M n q ((r:Int)+1) (show 3≠5 by decide),am_ M n q ((r:Int)+1) (show 4≠5 by decide)]
  generalize mrow (setM M 5 q ((r:Int)+1)) n 5=X at*
  have z0:=aa_ M n 0
  generalize mrow M n 0=R0 at*
  have z1:=aa_ M n 1
  generalize mrow M n 1=R1 at*
  have z2:=aa_ M n 2
  generalize mrow M n 2=R2 at*
  have z3:=aa_ M n 3
  generalize mrow M n 3=R3 at*
  have z4:=aa_ M n 4
  generalize mrow M n 4=R4 at*
  have z5:=aa_ M n 5
  generalize mrow M n 5=R5 at*
  refine DW.walk ?_
  rw [hX]
  exact Nm.mk Sub.auto
theorem aa6 {cc:Code} (hsel:selC [1,1,1,1,1,0,1,2,2,1,0,2,1,2,2,1,0,2,1,2,2] ap_=some cc) (A:Au) (hok:AuOk A) (r p q:Nat) (hN:A.f.length=1) (hr:r<A.f.length) (hp:p<A.f.length) (hq:q<A.f.length) (hm:(ab_ A).length≤5000000):
  DW Try.prog 118 cc ⟨(sQ A.f.length (ab_ A).length r p q (spC (ab_ A))),(eT1 A.r.length A.f.length A.to.length (A.r.map fun x=>D.flat (.int .i64 x)) (A.f.map fun x=>D.flat (.bool x)) (ag_ A.to) (MR A r p q))⟩ (Nm 118 ⟨(sQ A.f.length (ab_ A).length r p (q+1) (spC (ab_ A))),(eT1 A.r.length A.f.length A.to.length (A.r.map fun x=>D.flat (.int .i64 x)) (A.f.map fun x=>D.flat (.bool x)) (ag_ A.to) (MR A r p (q+1)))⟩):=by
 have q1:=ad_ A.r
 have q2:=ai_ A.f
 have q3:=al_ A.to
 have q4:=ao_ (ab_ A)
 have hgo:=fun (s:Sp) (hs:s∈ab_ A) (p:Int) (hp:InA A p)=>zp_ A hok s (a2_.1 hs) p hp
 have hin:=fun (s:Sp) (hs:s∈ab_ A) (p:Int) (hp:InA A p)=>b4_ hok (a2_.1 hs) hp
 have hgs:∀ (i:Nat) (s:Sp),(ab_ A)[i]?=some s→partD true 3 (i*3) (spC (ab_ A))=some (spD s):=fun i s h=>by
  exact e8_ h
 have hip:InA A p:=⟨by omega,by omega⟩
 have hiq:InA A q:=⟨by omega,by omega⟩
 unfold InA at hin hip hiq hgo
 rw [au_ A] at hgo
 generalize (A.r.map fun x=>D.flat (.int .i64 x))=LR at*
 generalize (A.f.map fun x=>D.flat (.bool x))=LB at*
 generalize ag_ A.to=LT at*
 generalize spC (ab_ A)=SC at*
 generalize A.r.length=rl at*
 generalize A.f.length=n at*
 generalize A.to.length=ta at*
 have hmiss:=fun h0 (h:∀ s∈ab_ A,farK A r (an_ A s p) (an_ A s q)≠(r:Int))=>fg_ (A:=A) (r:=r) (p:=p) (q:=q) h0 h
 have hhit:=fun (s:Sp) h0 hs he=>g4_ (A:=A) (r:=r) (p:=p) (q:=q) (s:=s) h0 hs he
 have hself:=df_ A r p q
 have hself1:=df_ A (r+1) p q
 generalize hSt:ab_ A=ss at*
 generalize hme:ss.length=m at*
 have zp:=fun M i=>aa_ M n i
 refine DW.sel hsel (by rfl) ?_
 dsimp only [eT1,sS,sQ]
 have y0:=zp (MR A r p q) 0;
 refine DW.walk ?_
 refine DW.loopA (fun x:Nat × Bool=>⟨(sS n m r p q x.1 SC),[(1,some (.box [.sl false 1 rl LR,.sl false 1 n LB,.sl false 1 ta LT])),(16,some (.row 22 1 n [.own 801 n])),(801,some (.row 3 1 n (mrow (if x.2 then (MR A r p (q+1)) else (MR A r p q)) n 0)))]⟩) (fun x=>x.1≤m∧(x.2=true→farK A (r+1) p q=((r+1:Nat):Int))∧(x.2=false→ ∀ s∈ss.take x.1,farK A r (an_ A s p) (an_ A s q)≠(r:Int))) (fun x=>m - x.1) (0,false) ?_ ⟨Nat.zero_le _,(fun h=>by cases h),(fun _=>by simp)⟩ (by show Sub _ _ ⟨(sS n m r p q 0 SC),(eT1 rl n ta LR LB LT (MR A r p q))⟩;dsimp only [eT1,sS,sQ];exact Sub.auto)
 rintro⟨s,b⟩ ⟨hs0,hb1,hb2⟩
 simp only at hs0 hb1 hb2
 have hkeep:farK A (r+1) p q=farK A r p q→(MR A r p (q+1))=(MR A r p q):=fun h=>g9_ h
 cases b with
 |true=>
  have hv:=hb1 rfl
  show DW _ _ _ ⟨(sS n m r p q s SC),(eT1 rl n ta LR LB LT (MR A r p (q+1)))⟩ _
  dsimp only [eT1,sS,sQ]
  have hvv:(MR A r p (q+1)) p q=((r+1:Nat):Int):=by
   rw [← hv];unfold MR;rw [if_pos (by omega)]
  have x0:=zp (MR A r p (q+1)) 0;
  generalize (MR A r p (q+1))=M at*
  rcases Nat.lt_or_ge s m with hs|hge
  ·refine DW.walkTo 24 ?_
   refine (wj_ (by rfl) n m rl ta r q s p hN LR LB LT SC M q1 q2 q3 q4 hm hr hp hq hs).mono ?_
   rintro e s' ⟨rfl,hsub⟩
   show DW _ _ _ _ _
   refine DW.sub hsub ?_
   dsimp only [eT1,sS,sQ]
   rw [hvv]
   clear hsub hmiss hhit hgo hgs hin zp hb1 hb2 hkeep
   generalize mrow M n 0=R0 at *;
   refine DW.walk ?_
   exact Nm.mk Sub.auto
  ·obtain rfl:s=m:=by omega
   clear hmiss hhit hgo hgs hin zp hb1 hb2 hkeep
   generalize mrow M n 0=R0 at *;
   refine DW.walk ?_
   exact Nm.mk Sub.auto
 |false  =>
  have hb:=hb2 rfl
  show DW _ _ _ ⟨(sS n m r p q s SC),(eT1 rl n ta LR LB LT (MR A r p q))⟩ _
  dsimp only [eT1,sS,sQ]
  rcases Nat.lt_or_ge s m with hs|hge
  ·obtain    ⟨st,hst⟩:∃ st,ss[s]?=some st:=⟨_,List.getElem?_eq_getElem (by omega)⟩
   have hmem:=List.mem_of_getElem? hst
   refine DW.walkTo 24 ?_
   refine (wj_ (by rfl) n m rl ta r q s p hN LR LB LT SC (MR A r p q) q1 q2 q3 q4 hm hr hp hq hs).mono ?_
   rintro e s' ⟨rfl,hsub⟩
   show DW _ _ _ _ _
   refine DW.sub hsub ?_
   dsimp only [eT1,sS,sQ]
   rw [hself]
   by_cases hneg:farK A r p q<0
   ·    rw [decide_eq_true hneg]
        refine DW.walkTo 26 ?_
        obtain⟨i0,i1⟩:=hin st hmem p hip
        obtain⟨j0,j1⟩:=hin st hmem q hiq
        have g1:=hgo st hmem p hip
        have g2:=hgo st hmem q hiq
        have gs:=hgs s st hst
        obtain⟨x,hx⟩:=Int.eq_ofNat_of_zero_le i0
        obtain⟨y,hy⟩:=Int.eq_ofNat_of_zero_le j0
        rw [hx] at g1 i1
        rw [hy] at g2 j1
        have heq:=rg_ A r p q x y
        rw [← hx,← hy] at heq
        rw [hx,hy] at heq
        refine DW.sub (s':=⟨(sS n m r p q s SC),(eT1 rl n ta LR LB LT (MR A r p q))⟩) (by dsimp only [eT1,sS,sQ];exact Sub.auto) ?_
        refine (zu_ (by rfl) n m rl ta r q s p hN LR LB LT SC (MR A r p q) q1 q2 q3 q4 hm hr hp hq hs st.sym st.at_ st.other x y (by omega) (by omega) gs g1 g2).mono ?_
        rintro e s' ⟨rfl,hsub⟩
        show DW _ _ _ _ _
        refine DW.sub hsub ?_
        dsimp only [eT1,sS,sQ]
        by_cases hh:(MR A r p q) x y=(r:Int)
        ·rw [decide_eq_true hh]
         have h1:=heq.1 hh
         rw [← hx,← hy] at h1
         have h2:=hhit st hneg hmem h1
         have hput:=kb_ (A:=A) (r:=r) (p:=p) (q:=q) (v:=((r:Nat):Int)+1) (by rw [h2];omega)
         refine DW.walkTo 27 ?_
         refine DW.sub (s':=⟨(sS n m r p q s SC),(eT1 rl n ta LR LB LT (MR A r p q))⟩) (by dsimp only [eT1,sS,sQ];exact Sub.auto) ?_
         refine (acg (by rfl) n m rl ta r q s p hN LR LB LT SC (MR A r p q) q1 q2 q3 q4 hm hr hp hq hs).mono ?_
         rintro e s' ⟨rfl,hsub⟩
         show DW _ _ _ _ _
         refine DW.sub hsub ?_
         dsimp only [eT1,sS,sQ]
         rw [hput]
         have x0:=zp (MR A r p (q+1)) 0;
         clear hsub hmiss hhit hgo hgs hin zp hb1 hb2 hkeep heq hput hh
         generalize hR0:mrow (MR A r p (q+1)) n 0=R0 at *;
         refine DW.walk ?_
         exact⟨(s+1,true),⟨by omega,(fun _=>h2),(fun h=>by cases h)⟩,by show m - (s+1)<m - s;omega,by show Sub _ _ ⟨(sS n m r p q (s+1) SC),(eT1 rl n ta LR LB LT (MR A r p (q+1)))⟩;dsimp only [eT1,sS,sQ];rw [hR0];exact Sub.auto⟩
        ·rw  [decide_eq_false hh]
         have h1:farK A r (an_ A st p) (an_ A st q)≠(r:Int):=fun h=>hh (heq.2 (by rw [← hx,← hy];exact h))
         have hb3:∀ z∈ss.take (s+1),farK A r (an_ A z p) (an_ A z q)≠(r:Int):=fun z hz=>by
            rw [List.take_add_one,hst] at hz
            rcases List.mem_append.1 hz with hz|hz
            ·exact hb z hz
            ·simp at hz;subst hz;exact h1
         clear hsub hmiss hhit hgo hgs hin zp hb1 hb2 hkeep heq hh
         generalize hR0:mrow (MR A r p q) n 0=R0 at *;
         refine DW.walk ?_
         exact⟨(s+1,false),⟨by omega,(fun h=>by cases h),(fun _=>hb3)⟩,by show m - (s+1)<m - s;omega,by show Sub _ _ ⟨(sS n m r p q (s+1) SC),(eT1 rl n ta LR LB LT (MR A r p q))⟩;dsimp only [eT1,sS,sQ];rw [hR0];exact Sub.auto⟩
   ·    rw [decide_eq_false hneg,hkeep (b2_ (by omega))]
        clear hsub hmiss hhit hgo hgs hin zp hb1 hb2 hkeep
        generalize mrow (MR A r p q) n 0=R0 at *;
        refine DW.walk ?_
        exact Nm.mk Sub.auto
  ·obtain rfl:s=m:=by omega
   have hall:∀ z∈ss,farK A r (an_ A z p) (an_ A z q)≠(r:Int):=fun z hz=>hb z (by rw [← hme,List.take_length];exact hz)
   have  hk2:farK A (r+1) p q=farK A r p q:=by
        by_cases hneg:farK A r p q<0
        ·exact hmiss hneg hall
        ·exact b2_ (by omega)
   rw [hkeep hk2]
   clear hmiss hhit hgo hgs hin zp hb1 hb2 hkeep hall hb
   generalize mrow (MR A r p q) n 0=R0 at *;
   refine DW.walk ?_
   exact Nm.mk Sub.auto
end Go.Proofs.Ytichhfbkhnimmaa
