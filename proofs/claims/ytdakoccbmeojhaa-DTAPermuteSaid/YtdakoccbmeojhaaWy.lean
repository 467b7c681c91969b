/- Contract of Permute. Condition: an automaton and a list in memory. -/
import Derived.Test.YtdakoccbmeojhaaWx
import Derived.Test.YtdakoccbmeojhaaPd
set_option linter.unusedSimpArgs false
set_option linter.unusedVariables false
set_option maxHeartbeats 400000
namespace Go.Proofs.Ytdakoccbmeojhaa
open Go Go.RowKit Go.PP

/-- An automaton and an error number as results. -/
def PairPost (w : World) (E : Au × Nat) (e : Ending) (w' : World) : Prop := ∃ v1 v2 v3, e = .returned (.tuple #[.agg #[v1, v2, v3], .int .i64 E.2]) ∧ AuIn (fun _ => False) w' v1 v2 v3 E.1 ∧ Fix w w'

theorem ints_nilM (M : Nat → Prop) (w : World) : Ints M w (.slice none 0 0) [] := ⟨none, 0, rfl, by simp, fun i hi => by simp at hi⟩
theorem au00 (M : Nat → Prop) (w : World) : AuIn M w (.slice none 0 0) (.slice none 0 0) (.slice none 0 0) A00 :=
  ⟨ints_nilM M w, ⟨none, 0, rfl, by simp [A00], fun i hi => by simp [A00] at hi⟩, ⟨[], ⟨none, 0, rfl, by simp, fun i hi => by simp at hi⟩, rfl, fun i u xs h => by simp at h⟩⟩

theorem AuIn.mut {M S : Nat → Prop} {w w' : World} {v1 v2 v3 : Value} {A : Au} (h : AuIn M w v1 v2 v3 A) (m : Mut S w w') (hs : ∀ b, b < w.heap.size → S b → M b) : AuIn M w' v1 v2 v3 A := ⟨h.r.mut m hs, SliceIn.mut h.f m hs, h.t.mut m hs⟩
theorem pm_start (w : World) (v1 v2 v3 : Value) (C : World) (hC : C = (w.alloc (.cells #[v1, v2, v3] 35)).alloc (.cells #[.slice none 0 0, .slice none 0 0, .slice none 0 0] 35)) :
    BoxA w.heap.size v1 v2 v3 C ∧ BoxA (w.heap.size + 1) (.slice none 0 0) (.slice none 0 0) (.slice none 0 0) C ∧ (∀ i, C.frozen? ⟨w.heap.size + 1, i, none⟩ = false) ∧ Fix w C ∧ w.heap.size + 2 ≤ C.heap.size := by
  subst hC
  refine ⟨⟨?_, ?_, ?_⟩, ⟨?_, ?_, ?_⟩, fun i => ?_, ((Mut.refl _ w).alloc _).alloc _, by simp⟩
  · exact box_keep _ (box_at _ _ rfl _ _ _ _ rfl)
  · exact box_keep _ (box_at _ _ rfl _ _ _ _ rfl)
  · exact box_keep _ (box_at _ _ rfl _ _ _ _ rfl)
  · exact box_at _ _ (by simp) _ _ _ _ rfl
  · exact box_at _ _ (by simp) _ _ _ _ rfl
  · exact box_at _ _ (by simp) _ _ _ _ rfl
  · go_simp

/-- The result variable overwritten by an automaton. -/
theorem pair_store {w wr : World} {g : Nat} {v1 v2 v3 : Value} {E : Au × Nat} (hf : Fix w wr) (hg : w.heap.size ≤ g) (hA : AuIn (fun b => b = g) wr v1 v2 v3 E.1) :
    PairPost w E (.returned (.tuple #[.agg #[v1, v2, v3], .int .i64 E.2])) (((wr.setCell ⟨g, 0, none⟩ v1).setCell ⟨g, 1, none⟩ v2).setCell ⟨g, 2, none⟩ v3) := by
  have hMM := (((Mut.refl (fun b => b = g) wr).setCell (p := ⟨g, 0, none⟩) (fun _ => rfl) v1).setCell (p := ⟨g, 1, none⟩) (fun _ => rfl) v2).setCell (p := ⟨g, 2, none⟩) (fun _ => rfl) v3
  exact ⟨_, _, _, rfl, (AuIn.mut hA hMM (fun b _ e => e)).mono (fun b _ e => e.elim), hf.trans' hMM (fun i hi e => by omega)⟩
end Go.Proofs.Ytdakoccbmeojhaa
