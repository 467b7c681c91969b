/- A machine over data: more rules. No condition. -/
import Derived.Test.YtjmljmappfhiaaaDoorNAi
set_option linter.unusedSimpArgs false
set_option linter.unusedVariables false
set_option linter.unusedSectionVars false
set_option maxHeartbeats 400000
namespace Go.Dm
open Go Go.RowKit Go.PP
variable [GlobW]
section
variable {P : Program} {N : Nat} {dst : Option Tmp} {ty : TypeId} {pos : String} {af : Array Edge} {gd : Option (Nat × Bool)}
/-- A field of an element of a row. -/
theorem T.fieldElp' {id L off n k e en : Nat} {cs : List D} (t : TypeId) (x : Operand) (i : Nat) (h : FieldAt P t i k n) (h0 : n ≠ 0) :
    Tri P N ⟨dst, .fieldAddr t x i, ty, pos, af, gd⟩ [(x, .elp id L off)] [(id, some (.row e en L cs))] (.elp id L (off + k)) [] := Tri.read fun w0 M0 B0 g s a w hs he hv => by
  obtain ⟨fs, f, ht, hf, rfl, hn, _⟩ := h
  have h1 := hv.1
  simp only [Rep] at h1
  obtain ⟨g', σ', hG, h2, _⟩ := h1
  cases hG
  obtain ⟨b, h5, h6⟩ := (row_at he.1 h2).2 rfl
  refine ⟨.pointer (some ⟨b, off + f.offset, none⟩), w, by simp only [execOp, h6, Sem.run_bind, run_fieldAt (P := P) w ht hf hn h0, Result.andThen_ok, Sem.run_pure], Mut.refl _ w, ?_⟩
  simp only [Rep]
  exact ⟨g, s.σ, rfl, .inr ⟨_, _, _, _, he.1, Nat.le_refl _, fun _ => ⟨b, h5, rfl⟩⟩, _, rfl⟩
end
end Go.Dm
