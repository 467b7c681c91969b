/- Contracts of New and BlockSize. Condition: a partition in memory. -/
import Derived.Test.YtojfpobgncapjaaWe
import Derived.Deep.OwnRows
set_option linter.unusedSimpArgs false
set_option linter.unusedVariables false
set_option maxHeartbeats 400000
namespace Go.Proofs.Ytojfpobgncapjaa
open Go Go.RowKit Go.PP

/-! ### New -/
def NewPost (w : World) (n : Nat) (e : Ending) (w' : World) : Prop :=
  ∃ p u : Nat, e = .returned (.tuple #[.pointer (some ⟨p, 0, none⟩), .int .i64 0]) ∧ w.heap.size ≤ p ∧ w.heap.size ≤ u ∧ Part w' p u n (iota n) ∧ Mut (fun _ => False) w w'

theorem new_no (n : Int) (w : World) (h : n < 0 ∨ 4096 < n) : Calls Try.prog 19 #[.int .i64 n] w fun e w' => e = .returned (.tuple #[.pointer none, .int .i64 2]) ∧ w = w' := by
  rcases h with h | h
  · go_enter Try.func19, Try.ntmps19
    go_wp2
    go_ret2
    exact ⟨rfl, rfl⟩
  · have h' : ¬ n < 0 := by omega
    go_enter Try.func19, Try.ntmps19
    go_wp2
    go_ret2
    exact ⟨rfl, rfl⟩

theorem iota_get (n i : Nat) (h : i < n) : (iota n)[i]? = some (i : Int) := by simp [iota, h]
theorem Up.iota (n : Nat) : Up (iota n) (iota n) := ⟨rfl, fun i hi => by
  rw [iota_len] at hi
  exact ⟨i, Nat.le_refl _, iota_get n i hi, rfl, fun _ => iota_get n i hi⟩⟩

theorem Part.of_row {w : World} {p u n c : Nat} {xs R : List Int} {f : Nat → Value} (hn : n ≤ 4096) (hp : w.heap[p]? = some (.cells #[.slice (some ⟨u, 0, none⟩) n c] 70 (0, 0))) (hu : w.rowIs u 3 n f)
    (hf : ∀ i, i < n → some (f i) = (xs[i]?).map (Value.int .i64)) (hU : Up xs R) (hl : R.length = n) : Part w p u n R := by
  obtain ⟨cur, h1, h2, h3⟩ := hu
  exact ⟨hl, hn, c, cur, xs, hp, h1, fun i hi => by rw [h3 i hi, hf i hi], hU⟩

def newF (k i : Nat) : Value := .int .i64 (if i < k then (i : Int) else 0)

theorem new_any (n : Nat) (w : World) (hn : n ≤ 4096) : Calls Try.prog 19 #[.int .i64 n] w (NewPost w n) := by
  have h0 : ¬ (n : Int) < 0 := by omega
  have hd : decide ((4096 : Int) < (n : Int)) = false := by simp; omega
  have hmk := fun w => run_make_row' (P := Try.prog) 24 3 (.int .i64 0) 8 Try.underlying24 info3 rfl .i64 .i64 n (by omega) (by omega) w
  go_enter Try.func19, Try.ntmps19
  go_wp2
  go_loopw [17] (fun i wr => ∃ k : Nat, k ≤ n ∧ i = .int .i64 k ∧ wr.rowIs w.heap.size 3 n (newF k) ∧ wr.heap[w.heap.size + 1]? = some (.cells #[.slice (some ⟨w.heap.size, 0, none⟩) n n] 70 (0, 0)) ∧ Mut (fun _ => False) w wr) (fun i _ => n - (intOf i).toNat)
  case atStart =>
    refine ⟨0, by omega, rfl, ?_, ?_, ((Mut.refl _ _).alloc _).alloc _⟩
    · exact ((World.rowIs_made w (.int .i64 0) n 3).alloc _).congr (fun i _ => by simp [newF])
    · have h := heap_alloc_new (w.alloc (Obj.cells (madeCells #[Value.int .i64 0] n) 3)) (Obj.cells #[.slice (some ⟨w.heap.size, 0, none⟩) n n] 70)
      rw [show (w.alloc (Obj.cells (madeCells #[Value.int .i64 0] n) 3)).heap.size = w.heap.size + 1 from by simp] at h
      exact h
  case round =>
    obtain ⟨k, hk, rfl, hrow, hp, hm⟩ := hrel
    have hcp : wr.cell? ⟨w.heap.size + 1, 0, none⟩ = some (.slice (some ⟨w.heap.size, 0, none⟩) n n) := by simp [World.cell?, hp]
    by_cases hlt : k < n
    · have hcu := hrow.cell (i := k) hlt
      have hfu := hrow.frozen k
      have hrow1 : (wr.setCell ⟨w.heap.size, k, none⟩ (.int .i64 k)).rowIs w.heap.size 3 n (newF (k + 1)) := (hrow.set k (.int .i64 k)).congr (fun i hi => by
        unfold newF
        by_cases e : i = k
        · subst e; simp
        · rw [if_neg e]; congr 1; by_cases h : i < k
          · rw [if_pos h, if_pos (by omega)]
          · rw [if_neg h, if_neg (by omega)])
      have hp1 : (wr.setCell ⟨w.heap.size, k, none⟩ (.int .i64 k)).heap[w.heap.size + 1]? = some (.cells #[.slice (some ⟨w.heap.size, 0, none⟩) n n] 70 (0, 0)) := by
        rw [Below.heap_setCell _ _ _ _ (by simp)]; exact hp
      have H := Lib.hid (And.intro hrow1 (And.intro hp1 (hm.setCell (p := ⟨w.heap.size, k, none⟩) (fun h => by simp at h) (.int .i64 k))))
      generalize newF k k = z at *
      clear hrow hp hm hrow1 hp1
      go_wp2
      go_roundw
      case rel => exact ⟨k + 1, by omega, by go_num, H.out.1, H.out.2.1, H.out.2.2⟩
      case measure => simp [intOf]; omega
    · obtain rfl : k = n := by omega
      have H := Lib.hid (show NewPost w k (.returned (.tuple #[.pointer (some ⟨w.heap.size + 1, 0, none⟩), .int .i64 0])) wr from
        ⟨w.heap.size + 1, w.heap.size, rfl, by omega, by omega, Part.of_row hn hp hrow (fun i hi => by rw [iota_get k i hi]; simp [newF, hi]) (Up.iota k) (iota_len k), hm⟩)
      clear hrow hp hm
      go_wp2
      go_ret2
      exact H.out

/-! ### BlockSize -/
def sizeTo (R : List Int) (n : Nat) (a : Int) : Nat → Nat
  | 0 => 0
  | k + 1 => sizeTo R n a k + if connB R n a k then 1 else 0
theorem sizeTo_le (R : List Int) (n : Nat) (a : Int) : ∀ k, sizeTo R n a k ≤ k
  | 0 => by simp [sizeTo]
  | k + 1 => by have := sizeTo_le R n a k; simp only [sizeTo]; split <;> omega

def SizePost (w : World) (p u n : Nat) (R : List Int) (a : Int) (e : Ending) (w' : World) : Prop :=
  e = .returned (.int .i64 (sizeTo R n a n)) ∧ Part w' p u n R ∧ Mut (· = u) w w'

theorem size_nil (a : Int) (w : World) : Calls Try.prog 16 #[.pointer none, .int .i64 a] w fun e w' => e = .returned (.int .i64 0) ∧ w = w' := by
  go_enter Try.func16, Try.ntmps16
  go_wp2_with fail
  refine (len_nil _).mono ?_
  rintro e w1 ⟨rfl, rfl⟩
  go_wp2
  refine wp_loop_once ?_
  go_wp2
  go_ret
  exact ⟨rfl, rfl⟩

theorem size_any (a : Int) (w : World) (p u n : Nat) (R : List Int) (hP : Part w p u n R) :
    Calls Try.prog 16 #[.pointer (some ⟨p, 0, none⟩), .int .i64 a] w (SizePost w p u n R a) := by
  have hn := hP.small
  replace hP := Lib.hid hP
  go_enter Try.func16, Try.ntmps16
  go_wp2_with fail
  refine (len_any _ p u n R hP.out).mono ?_
  rintro e w1 ⟨rfl, rfl⟩
  go_wp2
  go_loopw [5, 9] (fun c i wr => ∃ k : Nat, k ≤ n ∧ i = .int .i64 k ∧ c = .int .i64 (sizeTo R n a k) ∧ Part wr p u n R ∧ Mut (· = u) w wr) (fun _ i _ => n - (intOf i).toNat)
  case atStart => exact ⟨0, by omega, rfl, rfl, hP.out, Mut.refl _ _⟩
  case round =>
    obtain ⟨k, hk, rfl, rfl, hP1, hm⟩ := hrel
    clear hP
    replace hP1 := Lib.hid hP1
    replace hm := Lib.hid hm
    have hsz := sizeTo_le R n a k
    by_cases hlt : k < n
    · cases hb : connB R n a k with
      | true =>
        have hs := Lib.hid (show sizeTo R n a (k + 1) = sizeTo R n a k + 1 by simp [sizeTo, hb])
        have hb' := Lib.hid hb
        clear hb
        go_wp2_with fail
        refine (conn_any a k _ p u n R hP1.out).mono ?_
        unfold ConnPost
        rw [hb'.out]
        rintro e w1 ⟨rfl, hP2, hm2⟩
        have H := Lib.hid (And.intro hP2 (hm.out.trans hm2))
        clear hP1 hm hP2 hm2
        go_wp2
        go_roundw
        case rel => exact ⟨k + 1, by omega, by go_num, by rw [hs.out]; go_num, H.out.1, H.out.2⟩
        case measure => simp [intOf]; omega
      | false =>
        have hs := Lib.hid (show sizeTo R n a (k + 1) = sizeTo R n a k by simp [sizeTo, hb])
        have hb' := Lib.hid hb
        clear hb
        go_wp2_with fail
        refine (conn_any a k _ p u n R hP1.out).mono ?_
        unfold ConnPost
        rw [hb'.out]
        rintro e w1 ⟨rfl, hP2, hm2⟩
        have H := Lib.hid (And.intro hP2 (hm.out.trans hm2))
        clear hP1 hm hP2 hm2
        go_wp2
        go_roundw
        case rel => exact ⟨k + 1, by omega, by go_num, by rw [hs.out], H.out.1, H.out.2⟩
        case measure => simp [intOf]; omega
    · obtain rfl : k = n := by omega
      go_wp2
      go_ret
      exact ⟨rfl, hP1.out, hm.out⟩
end Go.Proofs.Ytojfpobgncapjaa
