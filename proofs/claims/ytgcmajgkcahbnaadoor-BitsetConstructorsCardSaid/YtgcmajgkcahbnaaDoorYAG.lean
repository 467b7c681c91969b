/- The greatest element. No condition. -/
import Derived.Test.YtgcmajgkcahbnaaDoorYAZ
import Derived.Test.YtgcmajgkcahbnaaDoorYAT2
import Derived.Lib.BitFns

set_option linter.unusedSimpArgs false
set_option linter.unusedVariables false
set_option maxRecDepth 8000
namespace Go.Bs
open Go
theorem len_aux : ∀ (f x : Nat), x < 2 ^ f → x ≠ 0 → 1 ≤ Lib.bitLenAux f x ∧ Lib.bitLenAux f x ≤ f ∧ 2 ^ (Lib.bitLenAux f x - 1) ≤ x ∧ x < 2 ^ (Lib.bitLenAux f x)
  | 0, x, h, h0 => by simp at h; omega
  | f + 1, x, h, h0 => by
    unfold Lib.bitLenAux
    rw [if_neg h0]
    by_cases h1 : x / 2 = 0
    · have hz : Lib.bitLenAux f (x / 2) = 0 := by rw [h1]; cases f <;> rfl
      rw [hz]
      refine ⟨by omega, by omega, ?_, ?_⟩
      · show 2 ^ 0 ≤ x; omega
      · show x < 2 ^ 1; omega
    · obtain ⟨q1, q2, q3, q4⟩ := len_aux f (x / 2) (by rw [Nat.pow_succ] at h; omega) h1
      generalize Lib.bitLenAux f (x / 2) = b at *
      obtain ⟨c, rfl⟩ : ∃ c, b = c + 1 := ⟨b - 1, by omega⟩
      simp only [Nat.add_sub_cancel] at q3
      refine ⟨by omega, by omega, ?_, ?_⟩
      · rw [show 1 + (c + 1) - 1 = c + 1 by omega, Nat.pow_succ]; omega
      · rw [show 1 + (c + 1) = (c + 1) + 1 by omega, Nat.pow_succ]; omega
theorem len_top {x : Nat} (h0 : x ≠ 0) (h : x < 18446744073709551616) : 1 ≤ Lib.bitLen x ∧ Lib.bitLen x ≤ 64 ∧ x.testBit (Lib.bitLen x - 1) = true ∧ ∀ j, Lib.bitLen x ≤ j → x.testBit j = false := by
  obtain ⟨q1, q2, q3, q4⟩ := len_aux 64 x h h0
  unfold Lib.bitLen
  generalize Lib.bitLenAux 64 x = b at *
  refine ⟨q1, q2, ?_, fun j hj => Nat.testBit_lt_two_pow (Nat.lt_of_lt_of_le q4 (Nat.pow_le_pow_right (by decide) hj))⟩
  obtain ⟨c, rfl⟩ : ∃ c, b = c + 1 := ⟨b - 1, by omega⟩
  simp only [Nat.add_sub_cancel] at q3 ⊢
  have hd : x / 2 ^ c = 1 := by
    rw [Nat.pow_succ] at q4
    exact Nat.div_eq_of_lt_le (by omega) (by omega)
  rw [Nat.testBit_eq_decide_div_mod_eq, hd]; rfl
/-- n is the greatest element. -/
def Gst (S n : Nat) : Prop := S.testBit n = true ∧ ∀ j, n < j → j < 1024 → S.testBit j = false
theorem gst_of_wd {S i b : Nat} (hi : i < 16) (h0 : ∀ j, i < j → j < 16 → wdS S j = 0) (hb1 : 1 ≤ b) (hb2 : b ≤ 64) (h1 : (wdS S i).testBit (b - 1) = true) (h2 : ∀ j, b ≤ j → (wdS S i).testBit j = false) : Gst S (64 * i + b - 1) ∧ 64 * i + b - 1 < 1024 := by
  refine ⟨⟨?_, fun j hj hj2 => ?_⟩, by omega⟩
  · rw [tb_wdS, decide_eq_true (by omega), Bool.true_and] at h1
    rwa [show 64 * i + b - 1 = 64 * i + (b - 1) by omega]
  · rcases Nat.lt_or_ge i (j / 64) with h3 | h3
    · have := congrArg (fun x => x.testBit (j % 64)) (h0 (j / 64) h3 (by omega))
      simp only [tb_wdS, Nat.zero_testBit, decide_eq_true (show j % 64 < 64 by omega), Bool.true_and, show 64 * (j / 64) + j % 64 = j by omega] at this
      exact this
    · have h4 : j / 64 = i := by omega
      have := h2 (j % 64) (by omega)
      rw [tb_wdS, decide_eq_true (by omega), Bool.true_and] at this
      rwa [show 64 * i + j % 64 = j by omega] at this
theorem last_els {S n : Nat} (hn : n < 1024) (h : Gst S n) : (els S)[(els S).length - 1]? = some (n : Int) := by
  have hm : (n : Int) ∈ els S := mem_els'.2 ⟨hn, h.1⟩
  obtain ⟨i, hi, he⟩ := List.getElem_of_mem hm
  have hpos : 0 < (els S).length := by omega
  rw [List.getElem?_eq_getElem (by omega)]
  refine congrArg some ?_
  by_cases e : i = (els S).length - 1
  · subst e; exact he
  · have hlt := List.pairwise_iff_getElem.1 (asc_els S) i ((els S).length - 1) hi (by omega) (by omega)
    have hz := List.getElem_mem (l := els S) (show (els S).length - 1 < (els S).length by omega)
    obtain ⟨k, k1, k2, k3⟩ := mem_els.1 hz
    rw [k3, he] at hlt
    have := h.2 k (by omega) k1
    rw [this] at k2; cases k2
/-- Either a set is empty or it has a highest word. -/
theorem top_word {S : Nat} : ∀ k, (∀ j, k ≤ j → j < 16 → wdS S j = 0) → k ≤ 16 → (∀ j, j < 16 → wdS S j = 0) ∨ ∃ i, i < 16 ∧ wdS S i ≠ 0 ∧ ∀ j, i < j → j < 16 → wdS S j = 0
  | 0, h, _ => .inl fun j hj => h j (Nat.zero_le _) hj
  | k + 1, h, hk => by
    by_cases h0 : wdS S k = 0
    · refine top_word k (fun j h1 h2 => ?_) (by omega)
      by_cases e : j = k
      · subst e; exact h0
      · exact h j (by omega) h2
    · exact .inr ⟨k, by omega, h0, fun j h1 h2 => h j (by omega) h2⟩
end Go.Bs
