/- The reference: a better tree. No condition. -/
import Derived.Test.YtichhfbkhnimmaaVTT2
set_option linter.unusedSimpArgs false
set_option linter.unusedVariables false
set_option maxHeartbeats 4000000
set_option maxRecDepth 8000
namespace Go.Proofs.Ytichhfbkhnimmaa
open Go Go.RowKit Go.PP Go.Dm Go.Rt Go.Mn
theorem vs_ (n q s:Nat) (hn:n≤512) (hq:q<n) (y:Int) (kl:Nat) (KL TC T1 IC I1:List D) (w0:persL KL=true) (q7:persL TC=true) (q8:persL T1=true) (q9:persL IC=true) (q10:persL I1=true) (lT:TC.length=n*2) (lI:IC.length=n)
  (b:Bool) (hb:partD false 1 (q*1) IC=some (.flat (.bool b))) (sz c:Int) (u0:Int) (l0:Nat) (K0:List D) (w1:persL K0=true) (h0:partD true 2 (q*2) TC=some (.agg [.flat (.int .i64 u0),.sl false 2 l0 K0])) (hs:DFun Try.prog 37 [.agg [.flat (.int .i64 y),.sl false 2 kl KL]] (.flat (.int .i64 sz))) (hc:DFun Try.prog 44 [.agg [.flat (.int .i64 y),.sl false 2 kl KL],.agg [.flat (.int .i64 u0),.sl false 2 l0 K0]] (.flat (.int .i64 c)))
  (r:Bool) (hr:r=true↔sz≤4096∧(b=false∨c<0)) (hyes:r=true→(List.take (q*2) TC++ [.flat (.int .i64 y),.sl false 2 kl KL]++List.drop (q*2+2) TC=T1)∧SplD IC (q*1) [.flat (.bool true)] I1) (hno:r=false→TC=T1∧IC=I1):
  DLend Try.prog 85 [.own 1717986918400005 n,.own 1717986918400006 n,.flat (.int .i64 ((q:Nat):Int)),.agg [.flat (.int .i64 y),.sl false 2 kl KL]] [(1717986918400005,some (.row 74 2 n TC)),(1717986918400006,some (.row 4 1 n IC))] [(1717986918400005,some (.row 74 2 n T1)),(1717986918400006,some (.row 4 1 n I1))] (.flat (.bool r)):=by
 cases r with
 |true=>
  obtain⟨z1,z2⟩:=hyes rfl
  obtain⟨h1,h2⟩:=hr.1 rfl
  have h1:¬ 4096<sz:=by omega
  clear hyes hno hr
  refine DLend.enterA Try.func85 Try.ntmps85 ?_
  cases b with
  |false=>
   clear h2
   refine DW.walk ?_
   rw [z1]
   exact⟨.inr rfl,ResL.oneA⟩
  |true=>
   have h2:¬ 0≤c:=by       have:c<0:=by simpa using h2
                           omega
   refine DW.walk ?_
   rw [z1]
   exact⟨.inr rfl,ResL.oneA⟩
 |false  =>
  obtain⟨rfl,rfl⟩:=hno rfl
  have hr2:¬ (sz≤4096∧(b=false∨c<0)):=fun h=>by have:=hr.2 h;cases this
  clear hyes hno hr
  refine DLend.enterA Try.func85 Try.ntmps85 ?_
  by_cases h1:4096<sz
  ·clear hr2
   refine DW.walk ?_
   exact⟨.inr rfl,ResL.oneA⟩
  ·cases  b with
   |false=>exact absurd ⟨by omega,.inl rfl⟩ hr2
   |    true=>
        have h2:0≤c:=by
         rcases Int.lt_or_le c 0 with h|h
         ·exact absurd ⟨by omega,.inr h⟩ hr2
         ·exact h
        clear hr2
        refine DW.walk ?_
        exact⟨.inr rfl,ResL.oneA⟩
end Go.Proofs.Ytichhfbkhnimmaa
