/- A call that is given rows of the caller's. No condition. -/
import Derived.Test.YtjmljmappfhiaaaDoorXW
import Derived.Test.YtjmljmappfhiaaaDoorXN

set_option linter.unusedSimpArgs false
set_option linter.unusedVariables false
set_option linter.unusedSectionVars false
set_option maxHeartbeats 400000
namespace Go.Dm
open Go Go.RowKit Go.PP
variable [GlobW]

theorem Mx.nil {M0 : Nat → Prop} {g : Gh} {b : Nat} (h : Mx M0 g [] b) : M0 b := by
  rcases h with h | ⟨id, h⟩
  · exact h
  · simp [blkOf, lkE] at h
theorem DFun.toLend {P : Program} {k : FuncId} {args : List D} {d : D} (h : DFun P k args d) (hp : persL args = true) : DLend P k args [] [] d := .intro fun M0 g w vals hM hh hv hgl => by
  refine (h.go M0 w vals hM ((RepL.down args vals hp hv).mono fun b _ q => .inl q) hgl.w).mono fun e w' ⟨v, h1, h2, h3⟩ => ?_
  exact ⟨v, g, h1, h3.mono (fun _ _ q => q.elim), Grow.refl _, ⟨fun id e he => by simp [lkE] at he, fun id id' b he => by simp [blkOf, lkE] at he, fun id b he => by simp [blkOf, lkE] at he⟩, fun id b he => by simp [blkOf, lkE] at he, (h2.up).mono fun b _ q => Mx.nil q⟩
section
variable {P : Program} {N : Nat} {dst : Option Tmp} {ty : TypeId} {pos : String} {af : Array Edge} {gd : Option (Nat × Bool)}
/-- One argument: a row that the caller gives away. -/
theorem T.giveRow {k : FuncId} {x : Operand} {ts : Array TypeId} {id e n L : Nat} {cs : List D} {d : D} (he : Enters P k) (hf : DFun P k [.sl false n L cs] d) (hp : persL cs = true) :
    Tri P N ⟨dst, .call { callee := .value (.func k), args := #[x], argTypes := ts }, ty, pos, af, gd⟩ [(x, .own id L)] [(id, some (.row e n L cs))] d [(id, some .dead)] := by
  have := T.lend (dst := dst) (ty := ty) (pos := pos) (af := af) (gd := gd) (ts := ts) (N := N) (ar := [x]) (ds' := [.own id L]) [(id, some (.row e n L cs))] he (hf.toLend rfl) rfl
    ⟨Vg.give (fun i hi => rfl) (Vw.own (.head _) (VwL.pers hp)), trivial⟩ rfl rfl rfl (fun i hi => by simp [fnd] at hi) trivial
  simp only [List.nil_append, deads, List.map_cons, List.map_nil] at this
  exact this
end
end Go.Dm
