/- Contracts over data: Parse. No condition. -/
import Derived.Test.YtgcmajgkcahbnaaDoorXSl
import Derived.Test.YtgcmajgkcahbnaaDoorYD13
import Derived.Test.YtgcmajgkcahbnaaDoorYD13b
import Derived.Test.YtgcmajgkcahbnaaDoorYD13c
import Derived.Test.YtgcmajgkcahbnaaDoorYD13d
import Derived.Test.YtgcmajgkcahbnaaDoorYB1

set_option linter.unusedSimpArgs false
set_option linter.unusedVariables false
set_option maxHeartbeats 8000000
set_option maxRecDepth 8000
namespace Go.Bs
open Go
def numE (s : List UInt8) : Int := if badN (digs s) then 3 else if 1023 < valN (digs s) then 2 else 0
def numN (s : List UInt8) : Int := if badN (digs s) then 0 else if 1023 < valN (digs s) then 0 else (valN (digs s) : Nat)
end Go.Bs
namespace Go.Proofs.YtgcmajgkcahbnaaDoor
open Go Go.RowKit Go.PP Go.Dm Go.Bs
theorem number_d (s : List UInt8) (hs : s.length ≤ 1000000) : DFun Tryd.prog 67 [strD s] (.tup [.flat (.int .i64 (numN s)), strD (rest s), .flat (.int .i64 (numE s))]) := by
  have hlen := congrArg List.length (digs_rest s)
  rw [List.length_append] at hlen
  have hd : List.take (s.length - (rest s).length) s = digs s := by
    conv => lhs; rw [← digs_rest s]
    rw [List.take_append_of_le_length (by rw [digs_rest]; omega), List.take_of_length_le (by rw [digs_rest]; omega)]
  have h1 := trim_d s
  have hR : (rest s).length ≤ s.length := by omega
  have hall := digs_all s
  unfold numE numN
  cases hc : digs s with
  | nil =>
    rw [if_pos (.inl rfl), if_pos (.inl rfl)]
    exact numB0 s _ hs hR (by rw [hd, hc]) h1
  | cons x t =>
    have e0 : decide (digs s = []) = false := decide_eq_false (by rw [hc]; simp)
    have hx : (digs s)[0]? = some x := by rw [hc]; rfl
    have hl := congrArg List.length hc
    rw [List.length_cons] at hl
    rw [← hc]
    by_cases hb : 1 < (digs s).length ∧ (digs s).head? = some 48
    · have h48 : (x.toNat : Int) = 48 := by
        have h := hb.2
        rw [hc, List.head?_cons, Option.some.injEq] at h
        rw [h]; rfl
      rw [if_pos (.inr hb), if_pos (.inr hb)]
      exact numB1 s _ _ x hs hR hd h1 e0 hx hb.1 (by omega) h48
    · have hnb : ¬ badN (digs s) := by
        rintro (h | h)
        · rw [hc] at h; cases h
        · exact hb h
      rw [if_neg hnb, if_neg hnb]
      by_cases h4 : 4 < (digs s).length
      · have hne : (digs s).head? ≠ some 48 := fun e => hb ⟨by omega, e⟩
        have h48 : ¬ (x.toNat : Int) = 48 := by
          intro e
          refine hne ?_
          rw [hc, List.head?_cons]
          congr 1
          exact u8_ext (a := x) (b := 48) (by have : (48 : UInt8).toNat = 48 := rfl; omega)
        have hv := valN_low _ hall (by rw [hc]; simp) hne
        have hp : 10 ^ 4 ≤ 10 ^ ((digs s).length - 1) := Nat.pow_le_pow_right (by decide) (by omega)
        have hv2 : 1023 < valN (digs s) := by omega
        rw [if_pos hv2, if_pos hv2]
        exact numL s _ _ x hs hR hd h1 e0 hx h4 (by omega) h48
      · have h48 : (digs s).length ≤ 1 ∨ ¬ (x.toNat : Int) = 48 := by
          by_cases h : (digs s).length ≤ 1
          · exact .inl h
          · refine .inr fun e => hb ⟨by omega, ?_⟩
            rw [hc, List.head?_cons]
            congr 1
            exact u8_ext (a := x) (b := 48) (by have : (48 : UInt8).toNat = 48 := rfl; omega)
        have h2 := atoi_d (digs s) _ (by omega) (atoi_canon (by rw [hc]; simp) hall)
        by_cases hv : 1023 < valN (digs s)
        · rw [if_pos hv, if_pos hv]
          by_cases hl1 : (digs s).length ≤ 1
          · exact numV3 s _ _ x _ hs hR hd h1 e0 hx (by omega) hl1 h2 (fits_f _ (.inr (by omega)))
          · exact numV4 s _ _ x _ hs hR hd h1 e0 hx (by omega) hl1 (h48.resolve_left hl1) h2 (fits_f _ (.inr (by omega)))
        · rw [if_neg hv, if_neg hv]
          by_cases hl1 : (digs s).length ≤ 1
          · exact numV1 s _ _ x _ hs hR hd h1 e0 hx (by omega) hl1 h2 (fits_t _ (by omega))
          · exact numV2 s _ _ x _ hs hR hd h1 e0 hx (by omega) hl1 (h48.resolve_left hl1) h2 (fits_t _ (by omega))
theorem num_bad {t : List UInt8} (hs : t.length ≤ 1000000) (h : badN (digs t)) : DFun Tryd.prog 67 [strD t] (.tup [.flat (.int .i64 0), strD (rest t), .flat (.int .i64 3)]) := by
  have h1 := number_d t hs
  unfold numE numN at h1
  rwa [if_pos h, if_pos h] at h1
theorem num_big {t : List UInt8} (hs : t.length ≤ 1000000) (h : ¬ badN (digs t)) (h2 : 1023 < valN (digs t)) : DFun Tryd.prog 67 [strD t] (.tup [.flat (.int .i64 0), strD (rest t), .flat (.int .i64 2)]) := by
  have h1 := number_d t hs
  unfold numE numN at h1
  rwa [if_neg h, if_neg h, if_pos h2, if_pos h2] at h1
theorem num_ok {t : List UInt8} (hs : t.length ≤ 1000000) (h : ¬ badN (digs t)) (h2 : ¬ 1023 < valN (digs t)) : DFun Tryd.prog 67 [strD t] (.tup [.flat (.int .i64 (valN (digs t) : Nat)), strD (rest t), .flat (.int .i64 0)]) := by
  have h1 := number_d t hs
  unfold numE numN at h1
  rwa [if_neg h, if_neg h, if_neg h2, if_neg h2] at h1
end Go.Proofs.YtgcmajgkcahbnaaDoor
