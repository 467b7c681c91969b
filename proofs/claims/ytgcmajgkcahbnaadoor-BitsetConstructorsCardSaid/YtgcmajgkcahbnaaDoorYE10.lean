/- The law of the constructors, over data. No condition. -/
import Derived.Test.YtgcmajgkcahbnaaDoorXSl
import Derived.Test.YtgcmajgkcahbnaaDoorYAG
import Derived.Test.YtgcmajgkcahbnaaDoorYB2
import Derived.Test.YtgcmajgkcahbnaaDoorYB3
import Derived.Test.YtgcmajgkcahbnaaDoorYB4
import Derived.Test.YtgcmajgkcahbnaaDoorYB5
import Derived.Test.YtgcmajgkcahbnaaDoorYB6
import Derived.Test.YtgcmajgkcahbnaaDoorYC7
import Derived.Test.YtgcmajgkcahbnaaDoorYC11
import Derived.Test.YtgcmajgkcahbnaaDoorYD1
import Derived.Test.YtgcmajgkcahbnaaDoorYD6
import Derived.Test.YtgcmajgkcahbnaaDoorYD11

set_option linter.unusedSimpArgs false
set_option linter.unusedVariables false
set_option maxHeartbeats 16000000
set_option maxRecDepth 8000
namespace Go.Proofs.YtgcmajgkcahbnaaDoor
open Go Go.RowKit Go.PP Go.Dm Go.Bs
noncomputable abbrev code10 : Code := Tryd.f10.body.getD .skip
theorem has_els {S : Nat} (hS : SetOk S) (z : Int) : decide (z ∈ els S) = hasS S z := by
  unfold hasS
  by_cases h : z < 0 ∨ z > 1023
  · rw [if_pos h]
    exact decide_eq_false fun e => by have := els_range e; omega
  · rw [if_neg h]
    obtain ⟨n, rfl⟩ : ∃ n : Nat, z = n := ⟨z.toNat, by omega⟩
    rw [Int.toNat_natCast]
    by_cases hb : S.testBit n = true
    · rw [hb]; exact decide_eq_true (mem_els'.2 ⟨by omega, hb⟩)
    · rw [Bool.not_eq_true] at hb
      rw [hb]; exact decide_eq_false fun e => by rw [(mem_els'.1 e).2] at hb; cases hb
/-- What Min and Max give. -/
structure Ends (S : Nat) (lo hi : Int) (b : Bool) : Prop where
  mn : DFun Tryd.prog 44 [setD S] (.tup [.flat (.int .i64 lo), .flat (.bool b)])
  mx : DFun Tryd.prog 45 [setD S] (.tup [.flat (.int .i64 hi), .flat (.bool b)])
  no : b = false → S = 0 ∧ lo = 0 ∧ hi = 0
  yes : b = true → S ≠ 0 ∧ 0 < (els S).length ∧ (els S)[0]? = some lo ∧ (els S)[(els S).length - 1]? = some hi
theorem ends {S : Nat} (hS : SetOk S) : ∃ lo hi b, Ends S lo hi b := by
  rcases top_word (S := S) 16 (fun j h1 h2 => by omega) (Nat.le_refl _) with h | ⟨i, h1, h2, h3⟩
  · obtain rfl := zero_of_wd hS h
    exact ⟨0, 0, false, min_0, max_0, fun _ => ⟨rfl, rfl, rfl⟩, fun h => (by cases h)⟩
  · obtain ⟨q1, q2, q3, q4⟩ := len_top h2 (wdS_lt S i)
    obtain ⟨g1, g2⟩ := gst_of_wd h1 h3 q1 q2 q3 q4
    have hl := last_els g2 g1
    have hpos : 0 < (els S).length := by
      have := (List.getElem?_eq_some_iff.1 hl).1; omega
    obtain ⟨z, tl, he⟩ : ∃ z tl, els S = z :: tl := by
      cases hq : els S with
      | nil => rw [hq] at hpos; simp at hpos
      | cons z tl => exact ⟨z, tl, rfl⟩
    obtain ⟨n, e1, e2, e3, _⟩ := els_head he
    have hne : S ≠ 0 := fun e => by subst e; rw [els_zero] at hpos; simp at hpos
    have hmx := max_c S i (Lib.bitLen (wdS S i)) h1 h3 h2 q1 q2 rfl
    refine ⟨(n : Int), 64 * (i : Int) + (Lib.bitLen (wdS S i) : Int) - 1, true, min_d S n e2 e3, hmx, fun h => (by cases h), fun _ => ⟨hne, hpos, by rw [he, e1]; rfl, ?_⟩⟩
    rw [hl]
    congr 1
    omega
theorem part10a {cc : Code} (hsel : selC [1, 1, 1, 1, 1, 0, 0] code10 = some cc) (S : Nat) (hS : SetOk S) (w : List Int) (hw : els S = w) (z lo hi : Int) :
    DW Tryd.prog 117 cc ⟨[(1, .flat (.int .i64 z)), (5, .ref 5 0), (6, intsD w), (7, .flat (.int .i64 lo)), (8, .flat (.bool (decide (0 < (w.length : Int))))), (9, .flat (.int .i64 hi)), (10, .flat (.bool (decide (0 < (w.length : Int)))))], [(5, some (.box (setC S)))]⟩ (fun e s => e = .normal ∧ Sub 117 s ⟨[(1, .flat (.int .i64 z)), (5, .ref 5 0), (6, intsD w), (7, .flat (.int .i64 lo)), (8, .flat (.bool (decide (0 < (w.length : Int))))), (9, .flat (.int .i64 hi)), (10, .flat (.bool (decide (0 < (w.length : Int))))), (72, .flat (.bool false))], [(5, some (.box (setC S)))]⟩) := by
  have hl := els_le S
  have h1 := to_d S
  have h2 := rsame_d (els S) (els S) (by omega) (by omega) (asc_els S) (asc_els S)
  rw [decide_eq_true rfl] at h2
  have h3 := len_d S
  have h4 := isEmpty_d S hS
  have e4 : decide (S = 0) = decide (((els S).length : Int) = 0) := decide_eq_decide.2 ⟨fun e => by subst e; rw [els_zero]; rfl, fun e => els_empty hS (List.eq_nil_of_length_eq_zero (by omega))⟩
  rw [e4] at h4
  have h5 := has_d S z
  have h6 := rhas_d (els S) z (by omega)
  rw [has_els hS] at h6
  rw [hw] at h1 h2 h3 h4 h6 hl
  generalize hasS S z = p at *
  clear e4 hw
  refine DW.sel hsel (by rfl) ?_
  refine DW.walk ?_
  exact ⟨rfl, Sub.auto⟩
end Go.Proofs.YtgcmajgkcahbnaaDoor
