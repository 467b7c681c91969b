/- The law of corruption: helpers. No condition. -/
import Derived.Test.YtjmljmappfhiaaaDoorYS10

set_option linter.unusedSimpArgs false
set_option linter.unusedVariables false
set_option maxHeartbeats 8000000
set_option maxRecDepth 8000
namespace Go.Proofs.YtjmljmappfhiaaaDoor
open Go Go.RowKit Go.PP Go.Dm

theorem bD_put {l : Bs} {j : Nat} (c : UInt8) (h : j < l.length) : spliceD (bD l) (j * 1) [.flat (.int .u8 c.toNat)] = bD (l.set j c) := by
  unfold spliceD bD
  rw [Nat.mul_one, List.set_eq_take_append_cons_drop, if_pos h]
  simp [List.map_take, List.map_drop]
theorem set_mid {α : Type} (c d : α) (s : List α) : ∀ p : List α, (p ++ c :: s).set p.length d = p ++ d :: s
  | [] => rfl
  | a :: p => by simp [set_mid c d s p]
theorem xor_ne {c d : UInt8} (h : d ≠ 0) : c ≠ c ^^^ d := fun e => by
  have h2 : c ^^^ c = c ^^^ (c ^^^ d) := by rw [← e]
  rw [← UInt8.xor_assoc, UInt8.xor_self, UInt8.zero_xor] at h2
  exact h h2.symm
theorem entsC_takeN (w : List (Bs × Bs)) : ∀ k, k ≤ w.length → (entsC w).take (k * 2) = entsC (w.take k) := fun k hk => by
  conv => lhs; rw [← List.take_append_drop k w]
  unfold entsC
  rw [List.flatMap_append]
  have : ((w.take k).flatMap entC).length = k * 2 := by
    have := entsC_len (w.take k)
    unfold entsC at this
    rw [this, List.length_take]; omega
  rw [← this, List.take_left']
  rfl
theorem take_ents (w : List (Bs × Bs)) (k : Nat) (hk : k ≤ w.length) : D.sl false 2 k ((entsC w).take (k * 2)) = entsD (w.take k) := by
  unfold entsD
  rw [entsC_takeN w k hk, List.length_take, Nat.min_eq_left hk]
end Go.Proofs.YtjmljmappfhiaaaDoor
