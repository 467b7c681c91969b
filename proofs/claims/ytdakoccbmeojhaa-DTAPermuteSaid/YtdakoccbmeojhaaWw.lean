/- Contract of Kept of the reference. Condition: a valid automaton and a closed list of its states. -/
import Derived.Test.YtdakoccbmeojhaaWv
set_option linter.unusedSimpArgs false
set_option linter.unusedVariables false
set_option maxHeartbeats 400000
namespace Go.Proofs.Ytdakoccbmeojhaa
open Go Go.RowKit Go.PP

theorem digs1 {n p : Nat} (h : p < n) : digs n 1 p = [(p : Int)] := by simp [digs, Nat.mod_eq_of_lt h]
theorem digs2 {n p : Nat} (h : p < n * n) : digs n 2 p = [((p / n : Nat) : Int), ((p % n : Nat) : Int)] := by
  simp [digs, Nat.mod_eq_of_lt (Nat.div_lt_of_lt_mul h)]

theorem ints_new1 (w : World) (x : Int) : Ints (fun _ => False) (w.alloc (.cells #[.int .i64 x] 3)) (.slice (some ⟨w.heap.size, 0, none⟩) 1 1) [x] :=
  ⟨some ⟨w.heap.size, 0, none⟩, 1, by simp, by simp, fun i hi => by
    obtain rfl : i = 0 := by simp at hi; omega
    exact ⟨w.heap.size, 0, .int .i64 x, rfl, id, by simp, by simp only [World.cell?]; rw [heap_alloc_new]; rfl⟩⟩
theorem ints_new2 (w : World) (x y : Int) : Ints (fun _ => False) (w.alloc (.cells #[.int .i64 x, .int .i64 y] 3)) (.slice (some ⟨w.heap.size, 0, none⟩) 2 2) [x, y] :=
  ⟨some ⟨w.heap.size, 0, none⟩, 2, by simp, by simp, fun i hi => by
    rcases (show i = 0 ∨ i = 1 by simp at hi; omega) with rfl | rfl
    · exact ⟨w.heap.size, 0, .int .i64 x, rfl, id, by simp, by simp only [World.cell?]; rw [heap_alloc_new]; rfl⟩
    · exact ⟨w.heap.size, 0, .int .i64 y, rfl, id, by simp, by simp only [World.cell?]; rw [heap_alloc_new]; rfl⟩⟩
theorem ints_nil (w : World) : Ints (fun _ => False) w (.slice none 0 0) [] := ⟨none, 0, rfl, by simp, fun i hi => by simp at hi⟩

/-- An automaton as a result: its ranks are the argument's, the rest is new. -/
def KeptPost (w : World) (v1 : Value) (A : Au) (e : Ending) (w' : World) : Prop := ∃ u2 u3, e = .returned (.agg #[v1, u2, u3]) ∧ (∀ M : Nat → Prop, (∀ b, M b → b < w.heap.size) → Ints M w v1 A.ranks → AuIn M w' v1 u2 u3 A) ∧ Fix w w'

theorem kp_start (w : World) (v1 v2 v3 : Value) (C : World) (hC : C = ((w.alloc (.cells #[v1, v2, v3] 26)).alloc (.cells #[.slice none 0 0, .slice none 0 0, .slice none 0 0] 26)).alloc (.cells #[v1, .slice none 0 0, .slice none 0 0] 26)) :
    BoxA w.heap.size v1 v2 v3 C ∧ BoxA (w.heap.size + 1) (.slice none 0 0) (.slice none 0 0) (.slice none 0 0) C ∧ (∀ i, C.frozen? ⟨w.heap.size + 1, i, none⟩ = false) ∧
    Mk1 C (w.heap.size + 1 + 1) v1 (.slice none 0 0) [] C ∧ Fix w C ∧ w.heap.size + 3 ≤ C.heap.size := by
  subst hC
  refine ⟨⟨?_, ?_, ?_⟩, ⟨?_, ?_, ?_⟩, fun i => ?_, ⟨Mut.refl _ _, ?_, ?_, ?_, fun i => ?_, World.ownsRow_nil _ _ _ _⟩, (((Mut.refl _ w).alloc _).alloc _).alloc _, by simp⟩
  · exact box_keep _ (box_keep _ (box_at _ _ rfl _ _ _ _ rfl))
  · exact box_keep _ (box_keep _ (box_at _ _ rfl _ _ _ _ rfl))
  · exact box_keep _ (box_keep _ (box_at _ _ rfl _ _ _ _ rfl))
  · exact box_keep _ (box_at _ _ (by simp) _ _ _ _ rfl)
  · exact box_keep _ (box_at _ _ (by simp) _ _ _ _ rfl)
  · exact box_keep _ (box_at _ _ (by simp) _ _ _ _ rfl)
  · go_simp
  · exact box_at _ _ (by simp) _ _ _ _ rfl
  · exact box_at _ _ (by simp) _ _ _ _ rfl
  · exact box_at _ _ (by simp) _ _ _ _ rfl
  · go_simp
theorem BoxA.mut' {S : Nat → Prop} {b : Nat} {v1 v2 v3 : Value} {w w' : World} (h : BoxA b v1 v2 v3 w) (m : Mut S w w') (hs : ¬ S b) : BoxA b v1 v2 v3 w' := ⟨m.cell h.c0 hs, m.cell h.c1 hs, m.cell h.c2 hs⟩
theorem places_of (v1 v2 v3 : Value) (R : List Int) (bs : List Bool) (tb : List (List Int)) (q n : Nat) (k : Int) (w : World) (hR : Ints (fun _ => False) w v1 R) (hb : Bools (fun _ => False) w v2 bs) (ht : IntsL (fun _ => False) w v3 tb) (hk : R[q]? = some k) (hr : 0 ≤ k ∧ k ≤ 2) (hn : bs.length = n) (h5 : n ≤ 512) :
    Calls Try.prog 51 #[.agg #[v1, v2, v3], .int .i64 q] w (RetPost w (.int .i64 (wideN k n : Nat))) := by
  subst hn
  exact places_any v1 v2 v3 ⟨R, bs, tb⟩ q k w ⟨hR, hb, ht⟩ hk hr h5
end Go.Proofs.Ytdakoccbmeojhaa
