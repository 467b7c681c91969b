/- The reference: classes. No condition. -/
import Derived.Test.YtichhfbkhnimmaaYFD2
import Derived.Test.YtichhfbkhnimmaaYPF
import Derived.Test.YtichhfbkhnimmaaYRF
import Derived.Test.YtichhfbkhnimmaaYQB
import Derived.Test.YtichhfbkhnimmaaYFE2
import Derived.Test.YtichhfbkhnimmaaYFE6
set_option linter.unusedSimpArgs false
set_option linter.unusedVariables false
set_option maxHeartbeats 4000000
set_option maxRecDepth 8000
namespace Go.Proofs.Ytichhfbkhnimmaa
open Go Go.RowKit Go.PP Go.Dm Go.Rt Go.Mn
theorem rcls_d (A:Au) (hok:AuOk A) (hf:DFun Try.prog 51 [auD A] (.sl false 1 A.final.length (farD A))):DFun Try.prog 16 [auD A] (.sl false 1 A.final.length ((clsU A).map fun x=>D.flat (.int .i64 x))):=by
 have hn:=hok.hi
 have hpp:∀ p:Nat,p<A.final.length→partD false 1 (p*1) (farD A)=some (.sl false 1 A.final.length (mrow (fun (i j:Nat)=>farA A i j) A.final.length p)):=fun p h=>part_map1 (l:=List.range A.final.length) (by rw [List.getElem?_range h])
 have hpF:persL (farD A)=true:=persL_map (fun _=>rfl) _
 have hpr:=fun p=>mrow_pers (fun (i j:Nat)=>farA A i j) A.final.length p
 have hpq:=fun (p q:Nat) (h:q<A.final.length)=>mrow_part (M:=fun (i j:Nat)=>farA A i j) (p:=p) h
 have hcs:=fun (p:Nat) (h:p<A.final.length)=>cls_spec hok h
 have hfn:=fun (p q:Nat) (hp:p<A.final.length) (hq:q<A.final.length)=>farA_neg hok hp hq
 have hsn:∀ p,(((List.range p).map fun (p:Nat)=>((clsA A p:Nat):Int)).map fun x=>D.flat (.int .i64 x))++ [.flat (.int .i64 (((clsA A p):Nat):Int))]=(((List.range (p+1)).map fun (p:Nat)=>((clsA A p:Nat):Int)).map fun x=>D.flat (.int .i64 x)):=fun p=>by rw [List.range_succ,List.map_append,List.map_append];rfl
 have hcp:=fun p=>pers_i ((List.range p).map fun (p:Nat)=>((clsA A p:Nat):Int))
 have hcu:clsU A=((List.range A.final.length).map fun (p:Nat)=>((clsA A p:Nat):Int)):=rfl
 rw [hcu]
 have q1:=pers_i A.ranks
 have q2:=pers_b A.final
 have q3:=pers_r A.to
 rw [auD_eq A] at hf ⊢
 generalize (A.ranks.map fun x=>D.flat (.int .i64 x))=LR at*
 generalize (A.final.map fun x=>D.flat (.bool x))=LB at*
 generalize rowsL A.to=LT at*
 generalize A.ranks.length=lr at*
 generalize A.final.length=n at*
 generalize A.to.length=lt at*
 generalize farD A=FD at*
 refine DFun.enterA Try.func16 Try.ntmps16 ?_
 refine DW.walkTo 3 ?_
 refine DW.adopt 4 71 3 1 rfl rfl ?_
 refine DW.walk ?_
 refine DW.loopA (fun p:Nat=>⟨[(1,.ref 1 0),(3,.sl false 1 n FD),(4,.own 71 p),(5,.flat (.int .i64 ((p:Nat):Int)))],[(1,some (.box [.sl false 1 lr LR,.sl false 1 n LB,.sl false 1 lt LT])),(71,some (.row 3 1 p (((List.range p).map fun (p:Nat)=>((clsA A p:Nat):Int)).map fun x=>D.flat (.int .i64 x))))]⟩) (fun p=>p≤n) (fun p=>n - p) 0 ?_ (Nat.zero_le _)
 intro p hp
 rcases Nat.lt_or_ge p n with hlt|hge
 ·obtain⟨c1,c2,c3⟩:=hcs p hlt
  have hr:=hpp p hlt
  have hrp:=hpr p
  have hq:=hpq p
  have hs1:=hsn p
  have y0:=hcp p
  have y1:=hcp (p+1)
  have hfp:=fun q (h:q<n)=>hfn p q hlt h
  clear hpp hpr hpq hcs hfn hsn hcp
  generalize hX1:(((List.range (p+1)).map fun (p:Nat)=>((clsA A p:Nat):Int)).map fun x=>D.flat (.int .i64 x))=X1 at*
  generalize (((List.range p).map fun (p:Nat)=>((clsA A p:Nat):Int)).map fun x=>D.flat (.int .i64 x))=X0 at*
  generalize mrow (fun (i j:Nat)=>farA A i j) n p=RW at*
  refine DW.walk ?_
  refine DW.loopA (fun q:Nat=>⟨[(1,.ref 1 0),(3,.sl false 1 n FD),(4,.own 71 p),(5,.flat (.int .i64 ((p:Nat):Int))),(6,.flat (.int .i64 ((q:Nat):Int)))],[(1,some (.box [.sl false 1 lr LR,.sl false 1 n LB,.sl false 1 lt LT])),(71,some (.row 3 1 p X0))]⟩) (fun q=>q≤clsA A p) (fun q=>clsA A p - q) 0 ?_ (Nat.zero_le _)
  intro q hqc
  have hqn:q<n:=by omega
  have hv:=hq q hqn
  have hnv:=hfp q hqn
  generalize farA A (p:Int) (q:Int)=v at*
  rcases Nat.lt_or_ge q (clsA A p) with hl2|hg2
  ·have hpos:¬ v<0:=fun h=>c3 q hl2 (hnv.1 h)
   clear hq hfp c2 c3 hnv
   refine DW.walk ?_
   exact⟨q+1,by omega,by omega,Sub.auto⟩
  ·obtain rfl:q=clsA A p:=by omega
   have hneg:v<0:=hnv.2 c2
   clear hq hfp c2 c3 hnv
   generalize clsA A p=c at*
   refine DW.walk ?_
   rw [hs1]
   exact⟨p+1,by omega,by omega,by rw [hX1];exact Sub.auto⟩
 ·obtain rfl:n=p:=by omega
  have y0:=hcp n
  clear hpp hpr hpq hcs hfn hsn hcp
  generalize (((List.range n).map fun (p:Nat)=>((clsA A p:Nat):Int)).map fun x=>D.flat (.int .i64 x))=X0 at*
  refine DW.walk ?_
  exact⟨.inr rfl,ResOk.one [(71,some (.row 3 1 n X0))] rfl rfl ⟨rfl,trivial⟩ (Vw.own (.head _) (VwL.pers y0))⟩
theorem law3_few (A:Au) (hr:fewB A=false):DFun Try.prog 3 [auD A] (.flat (.bool true)):=by
 have hkn:=known_d
 have hfa:=few_d A
 rw [hr] at hfa
 have q1:=pers_i A.ranks
 have q2:=pers_b A.final
 have q3:=pers_r A.to
 rw [auD_eq A] at hfa ⊢
 generalize (A.ranks.map fun x=>D.flat (.int .i64 x))=LR at*
 generalize (A.final.map fun x=>D.flat (.bool x))=LB at*
 generalize rowsL A.to=LT at*
 generalize A.ranks.length=lr at*
 generalize A.final.length=lb at*
 generalize A.to.length=lt at*
 refine DFun.enterA Try.func3 Try.ntmps3 ?_
 refine DW.walk ?_
 exact⟨.inr rfl,ResOk.one [] rfl rfl trivial (Vw.pers rfl)⟩
theorem law3_bad (A:Au) (hr:fewB A=true) (hk:chk A≠0):DFun Try.prog 3 [auD A] (.flat (.bool true)):=by
 have hkn:=known_d
 have hfa:=few_d A
 rw [hr] at hfa
 have hfr:=from_d A
 have hcl:=classesB_d A (fewB_few hr) hk
 have hc:=rcheck_d A (fewB_few hr)
 have hne:((chk A:Nat):Int)≠0:=by omega
 generalize chk A=ck at*
 have q1:=pers_i A.ranks
 have q2:=pers_b A.final
 have q3:=pers_r A.to
 rw [auD_eq A] at hfa hfr hcl hc ⊢
 generalize (A.ranks.map fun x=>D.flat (.int .i64 x))=LR at*
 generalize (A.final.map fun x=>D.flat (.bool x))=LB at*
 generalize rowsL A.to=LT at*
 generalize A.ranks.length=lr at*
 generalize A.final.length=lb at*
 generalize A.to.length=lt at*
 refine DFun.enterA Try.func3 Try.ntmps3 ?_
 have hd:decide (((ck:Nat):Int)=0)=false:=decide_eq_false hne
 refine DW.walk ?_
 rw [hd]
 refine DW.walk ?_
 exact⟨.inr rfl,ResOk.one [] rfl rfl trivial (Vw.pers rfl)⟩
theorem law3_ok (A:Au) (hr:fewB A=true) (hk:chk A=0) (hf:DFun Try.prog 51 [auD A] (.sl false 1 A.final.length (farD A))):DFun Try.prog 3 [auD A] (.flat (.bool true)):=by
 have hok:=chk_ok hk
 have hn:=hok.hi
 have hkn:=known_d
 have hfa:=few_d A
 rw [hr] at hfa
 have hfr:=from_d A
 have hcl:=classesE_d A hk
 have hc:=rcheck_d A (few_of hok)
 rw [hk] at hc
 have hrc:=rcls_d A hok hf
 have hUl:(clsU A).length=A.final.length:=by simp [clsU]
 have hle:=len0_d (clsU A)
 have hfd:=fun (i m:Nat) (h:(clsU A)[i]?=some (m:Int))=>find0_d (clsU A) (clsU_flat hok) (by omega) i m h
 have hpt:∀ (i:Nat) (x:Int),(clsU A)[i]?=some x→partD false 1 (i*1) ((clsU A).map fun x=>D.flat (.int .i64 x))=some (.flat (.int .i64 x)):=fun i x h=>part_i h
 have hget:∀ i,i<A.final.length→(clsU A)[i]?=some ((clsA A i:Nat):Int):=fun i h=>by simp [clsU,h]
 have y0:=pers_i (clsU A)
 rw [hUl] at hle hfd
 clear hk hf hr hok
 generalize ((clsU A).map fun x=>D.flat (.int .i64 x))=CU at*
 have q1:=pers_i A.ranks
 have q2:=pers_b A.final
 have q3:=pers_r A.to
 rw [auD_eq A] at hfa hfr hcl hc hrc ⊢
 generalize (A.ranks.map fun x=>D.flat (.int .i64 x))=LR at*
 generalize (A.final.map fun x=>D.flat (.bool x))=LB at*
 generalize rowsL A.to=LT at*
 generalize A.ranks.length=lr at*
 generalize A.final.length=n at*
 generalize A.to.length=lt at*
 refine DFun.enterA Try.func3 Try.ntmps3 ?_
 refine DW.walk ?_
 refine DW.loopA (fun i:Nat=>⟨[(3,.ref 225626701274425600001 0),(6,.sl false 1 n CU),(7,.flat (.int .i64 ((i:Nat):Int)))],[(225626701274425600001,some (.box [.own 225626701274425600002 n])),(225626701274425600002,some (.row 3 1 n CU))]⟩) (fun i=>i≤n) (fun i=>n - i) 0 ?_ (Nat.zero_le _)
 intro i hi
 rcases Nat.lt_or_ge i n with hlt|hge
 ·have hg:=hget i hlt
  have hp:=hpt i _ hg
  have hfi:=hfd i _ hg
  generalize clsA A i=c at*
  clear hget hpt hfd
  refine DW.walk ?_
  exact⟨i+1,by omega,by omega,Sub.auto⟩
 ·obtain rfl:n=i:=by omega
  clear hget hpt hfd
  refine DW.walk ?_
  exact⟨.inr rfl,ResOk.one [] rfl rfl trivial (Vw.pers rfl)⟩
theorem far51_d (A:Au) (hok:AuOk A) (h6:A.final.length≤6):DFun Try.prog 51 [auD A] (.sl false 1 A.final.length (farD A)):=by
 have h1:=hok.lo
 rcases (show A.final.length=1∨A.final.length=2∨A.final.length=3∨A.final.length=4∨A.final.length=5∨A.final.length=6 by omega) with h|h|h|h|h|h
 ·exact far51_1 A hok h
 ·exact far51_2 A hok h
 ·exact far51_3 A hok h
 ·exact far51_4 A hok h
 ·exact far51_5 A hok h
 ·exact far51_6 A hok h
theorem law3_all (A:Au):DFun Try.prog 3 [auD A] (.flat (.bool true)):=by
 cases hr:fewB A with
 |false=>exact law3_few A hr
 |true=>
  by_cases hk:chk A=0
  ·exact law3_ok A hr hk (far51_d A (chk_ok hk) (of_decide_eq_true hr).1)
  ·exact law3_bad A hr hk
end Go.Proofs.Ytichhfbkhnimmaa
