/- The plain law of the digits. No condition. -/
import Derived.Test.YtjmljmappfhiaaaDoorVD
set_option linter.unusedSimpArgs false
set_option linter.unusedVariables false
namespace Go.Proofs.YtjmljmappfhiaaaDoor
open Go Go.RowKit Go.PP Go.Dm

theorem sign_dec {x : Nat} (h : x < 10) : UInt8.ofNat (48 + x) = signs.getD x 0 := by
  match x, h with
  | 0, _ | 1, _ | 2, _ | 3, _ | 4, _ | 5, _ | 6, _ | 7, _ | 8, _ | 9, _ => rfl
  | x + 10, h => omega
theorem dec_digs (u : Nat) : Lib.decDigits u = digs 10 u := by
  induction u using Nat.strongRecOn with
  | _ u ih =>
    rw [Lib.decDigits, digs_eq 10 (by omega)]
    by_cases h : u < 10
    · rw [dif_pos h, if_pos h, sign_dec h, Nat.mod_eq_of_lt h]; rfl
    · rw [dif_neg h, if_neg h, ih (u / 10) (by omega), sign_dec (Nat.mod_lt _ (by omega))]
theorem hex_pad : ∀ (m S : Nat), S < 16 ^ (m + 1) → List.replicate (m + 1 - (digs 16 S).length) 48 ++ digs 16 S = (List.range (m + 1)).map fun i => signs.getD (S / 16 ^ (m - i) % 16) 0
  | 0, S, h => by
    have h16 : S < 16 := by simpa using h
    rw [digs_eq 16 (by omega), if_pos h16]
    simp
  | m + 1, S, h => by
    have ih := hex_pad m (S / 16) (Nat.div_lt_of_lt_mul (by rw [Nat.pow_succ, Nat.mul_comm] at h; exact h))
    rw [List.range_succ, List.map_append]
    have hr : (List.range (m + 1)).map (fun i => signs.getD (S / 16 ^ (m + 1 - i) % 16) 0) = (List.range (m + 1)).map fun i => signs.getD (S / 16 / 16 ^ (m - i) % 16) 0 := by
      refine List.map_congr_left fun i hi => ?_
      have hi := List.mem_range.1 hi
      rw [Nat.div_div_eq_div_mul, show m + 1 - i = (m - i) + 1 by omega, Nat.pow_succ, Nat.mul_comm (16 ^ (m - i)) 16]
    rw [hr, ← ih]
    have hlast : (List.map (fun i => signs.getD (S / 16 ^ (m + 1 - i) % 16) 0) [m + 1]) = [signs.getD (S % 16) 0] := by simp
    rw [hlast, digs_eq 16 (by omega) S]
    by_cases h16 : S < 16
    · rw [if_pos h16, Nat.div_eq_of_lt h16]
      have h0 : digs 16 0 = [48] := by decide
      rw [h0]
      simp only [List.nil_append, List.length_cons, List.length_nil]
      rw [show m + 1 + 1 - (0 + 1) = (m + 1 - (0 + 1)) + 1 by omega, List.replicate_succ']
    · rw [if_neg h16]
      simp only [List.length_append, List.length_cons, List.length_nil]
      rw [List.append_assoc, show m + 1 + 1 - ((digs 16 (S / 16)).length + (0 + 1)) = m + 1 - (digs 16 (S / 16)).length by omega]
/-- The first j of eight digits of base 16, by shifts. -/
def nibs (S j : Nat) : Bs := (List.range j).map fun i => signs.getD (S / 2 ^ (4 * (7 - i)) % 16) 0
theorem nibs_succ (S j : Nat) : nibs S (j + 1) = nibs S j ++ [signs.getD (S / 2 ^ (4 * (7 - j)) % 16) 0] := by
  unfold nibs; rw [List.range_succ, List.map_append]; rfl
theorem nibs_len (S j : Nat) : (nibs S j).length = j := by simp [nibs]
theorem nibs_hex (S : Nat) (h : S < 2 ^ 32) : nibs S 8 = hex8 S := by
  unfold nibs hex8
  rw [hex_pad 7 S (by omega)]
  refine List.map_congr_left fun i hi => ?_
  rw [Nat.pow_mul]
end Go.Proofs.YtjmljmappfhiaaaDoor
