/- The number of bits of a word, as math/bits reckons it: plain laws. No condition. -/
import Derived.Test.YtgcmajgkcahbnaaDoorYAZ

set_option linter.unusedSimpArgs false
set_option linter.unusedVariables false
namespace Go.Bs

def rep (m : Nat) : Nat → Nat
  | 0 => 0
  | n + 1 => m + 256 * rep m n
def s1 (m x : Nat) : Nat := ((x / 2) &&& m) + (x &&& m)
def s2 (m x : Nat) : Nat := ((x / 4) &&& m) + (x &&& m)
def s3 (m x : Nat) : Nat := (x / 16 + x) &&& m
theorem and_split {a m : Nat} (ha : a < 256) (hm : m < 256) (b M : Nat) : (a + 256 * b) &&& (m + 256 * M) = (a &&& m) + 256 * (b &&& M) := by
  have e : ∀ {a : Nat} (b : Nat), a < 256 → ∀ j, (a + 256 * b).testBit j = if j < 8 then a.testBit j else b.testBit (j - 8) := fun b h j => by
    rw [Nat.add_comm]; exact Nat.testBit_two_pow_mul_add (i := 8) b h j
  refine Nat.eq_of_testBit_eq (fun j => ?_)
  have h2 : a &&& m < 256 := Nat.lt_of_le_of_lt Nat.and_le_left ha
  rw [Nat.testBit_and, e b ha, e M hm, e (b &&& M) h2]
  by_cases hj : j < 8
  · rw [if_pos hj, if_pos hj, if_pos hj, Nat.testBit_and]
  · rw [if_neg hj, if_neg hj, if_neg hj, Nat.testBit_and]
theorem mask_lo (m : Nat) (k : Nat) (a : Nat) (h : m < 2 ^ k) : a &&& m = (a % 2 ^ k) &&& m := by
  refine Nat.eq_of_testBit_eq (fun j => ?_)
  rw [Nat.testBit_and, Nat.testBit_and, Nat.testBit_mod_two_pow]
  by_cases hj : j < k
  · rw [decide_eq_true hj, Bool.true_and]
  · rw [Nat.testBit_lt_two_pow (Nat.lt_of_lt_of_le h (Nat.pow_le_pow_right (by decide) (by omega))), Bool.and_false, Bool.and_false]
theorem s1_split {b : Nat} (hb : b < 256) (y M : Nat) : s1 (85 + 256 * M) (b + 256 * y) = s1 85 b + 256 * s1 M y := by
  unfold s1
  have h1 : (b + 256 * y) / 2 = (b / 2 + 128 * (y % 2)) + 256 * (y / 2) := by omega
  rw [h1, and_split (by omega) (by decide), and_split hb (by decide)]
  have h2 : (b / 2 + 128 * (y % 2)) &&& 85 = b / 2 &&& 85 := by
    rw [mask_lo 85 7 _ (by decide), mask_lo 85 7 (b / 2) (by decide)]
    congr 1; omega
  rw [h2]; omega
theorem s2_split {b : Nat} (hb : b < 256) (y M : Nat) : s2 (51 + 256 * M) (b + 256 * y) = s2 51 b + 256 * s2 M y := by
  unfold s2
  have h1 : (b + 256 * y) / 4 = (b / 4 + 64 * (y % 4)) + 256 * (y / 4) := by omega
  rw [h1, and_split (by omega) (by decide), and_split hb (by decide)]
  have h2 : (b / 4 + 64 * (y % 4)) &&& 51 = b / 4 &&& 51 := by
    rw [mask_lo 51 6 _ (by decide), mask_lo 51 6 (b / 4) (by decide)]
    congr 1; omega
  rw [h2]; omega
theorem s3_split {c : Nat} (hc : c ≤ 68) (z M : Nat) (hz : z % 16 ≤ 4) : s3 (15 + 256 * M) (c + 256 * z) = s3 15 c + 256 * s3 M z := by
  unfold s3
  have h1 : (c + 256 * z) / 16 + (c + 256 * z) = (c / 16 + c + 16 * (z % 16)) + 256 * (z / 16 + z) := by omega
  rw [h1, and_split (by omega) (by decide)]
  have h2 : (c / 16 + c + 16 * (z % 16)) &&& 15 = (c / 16 + c) &&& 15 := by
    rw [mask_lo 15 4 _ (by decide), mask_lo 15 4 (c / 16 + c) (by decide)]
    congr 1; omega
  rw [h2]
/-- The bits of a byte. -/
def pop8 (b : Nat) : Nat := s3 15 (s2 51 (s1 85 b))
theorem pop8_facts : ∀ b, b < 256 → s1 85 b < 256 ∧ s2 51 (s1 85 b) ≤ 68 ∧ s2 51 (s1 85 b) % 16 ≤ 4 ∧ pop8 b ≤ 8 ∧ pop8 b = ((List.range 8).filter (fun j => b.testBit j)).length := by decide +kernel
def popN : Nat → Nat → Nat
  | 0, _ => 0
  | n + 1, x => pop8 (x % 256) + 256 * popN n (x / 256)
theorem s12 : ∀ (n x : Nat), (n = 0 → x = 0) → s2 (rep 51 n) (s1 (rep 85 n) x) % 16 ≤ 4 ∧ s3 (rep 15 n) (s2 (rep 51 n) (s1 (rep 85 n) x)) = popN n x
  | 0, x, h => by
    rw [h rfl]; exact ⟨by decide, by decide⟩
  | n + 1, x, _ => by
    have hx : x = x % 256 + 256 * (x / 256) := by omega
    have hb : x % 256 < 256 := by omega
    obtain ⟨f1, f2, f3, f4, f5⟩ := pop8_facts _ hb
    have e1 : s2 (rep 51 (n + 1)) (s1 (rep 85 (n + 1)) x) = s2 51 (s1 85 (x % 256)) + 256 * s2 (rep 51 n) (s1 (rep 85 n) (x / 256)) := by
      conv => lhs; rw [hx]
      show s2 (51 + 256 * rep 51 n) (s1 (85 + 256 * rep 85 n) _) = _
      rw [s1_split hb, s2_split f1]
    have e2 : s2 (rep 51 n) (s1 (rep 85 n) (x / 256)) % 16 ≤ 4 ∧ s3 (rep 15 n) (s2 (rep 51 n) (s1 (rep 85 n) (x / 256))) = popN n (x / 256) := by
      cases n with
      | zero =>
        have : s1 (rep 85 0) (x / 256) = 0 := by unfold s1 rep; rw [Nat.and_zero, Nat.and_zero]
        rw [this]
        refine ⟨by decide, ?_⟩
        show s3 0 _ = 0
        unfold s3; exact Nat.and_zero _
      | succ n => exact s12 (n + 1) (x / 256) (fun h => absurd h (by omega))
    refine ⟨by rw [e1]; omega, ?_⟩
    rw [e1]
    show s3 (15 + 256 * rep 15 n) _ = _
    rw [s3_split f2 _ _ e2.1, e2.2]; rfl
/-- What the function reckons. -/
def popG (x : Nat) : Nat :=
  let a := s3 1085102592571150095 (s2 3689348814741910323 (s1 6148914691236517205 x))
  let b := a + a / 256
  let c := b + b / 65536
  let d := c + c / 4294967296
  d % 128
def bitsOf (n x : Nat) : Nat := ((List.range n).filter (fun j => x.testBit j)).length
theorem bitsOf_add (m n x : Nat) : bitsOf (m + n) x = bitsOf m x + bitsOf n (x / 2 ^ m) := by
  unfold bitsOf
  rw [List.range_add, List.filter_append, List.length_append, List.filter_map, List.length_map]
  congr 3
  funext j
  simp only [Function.comp_apply, Nat.testBit_div_two_pow, Nat.add_comm]
theorem bitsOf_mod (n x : Nat) : bitsOf n (x % 2 ^ n) = bitsOf n x := by
  unfold bitsOf
  congr 1
  refine List.filter_congr (fun j hj => ?_)
  rw [Nat.testBit_mod_two_pow, decide_eq_true (List.mem_range.1 hj), Bool.true_and]
theorem pop8_bits (x : Nat) : pop8 (x % 256) ≤ 8 ∧ pop8 (x % 256) = bitsOf 8 x := by
  obtain ⟨_, _, _, f4, f5⟩ := pop8_facts (x % 256) (by omega)
  exact ⟨f4, f5.trans (bitsOf_mod 8 x)⟩
theorem low_b (q0 q1 c1 : Nat) (h : q0 + 256 * q1 < 65536) : (q0 + 256 * q1 + 65536 * c1) / 65536 = c1 := by omega
theorem low_c (d0 d1 : Nat) (h : d0 < 4294967296) : (d0 + 4294967296 * d1) / 4294967296 = d1 := by omega
theorem low_d (a b c : Nat) (h : a < 128) : (a + 128 * b + 128 * c) % 128 = a := by omega
theorem low8 {a0 a1 a2 a3 a4 a5 a6 a7 : Nat} (p0 : a0 ≤ 8) (p1 : a1 ≤ 8) (p2 : a2 ≤ 8) (p3 : a3 ≤ 8) (p4 : a4 ≤ 8) (p5 : a5 ≤ 8) (p6 : a6 ≤ 8) (p7 : a7 ≤ 8) :
    (let a := a0 + 256 * (a1 + 256 * (a2 + 256 * (a3 + 256 * (a4 + 256 * (a5 + 256 * (a6 + 256 * (a7 + 256 * 0)))))))
     let b := a + a / 256
     let c := b + b / 65536
     let d := c + c / 4294967296
     d % 128) = a0 + a1 + a2 + a3 + a4 + a5 + a6 + a7 := by
  have f1 : (a0 + 256 * (a1 + 256 * (a2 + 256 * (a3 + 256 * (a4 + 256 * (a5 + 256 * (a6 + 256 * (a7 + 256 * 0)))))))) / 256 = a1 + 256 * (a2 + 256 * (a3 + 256 * (a4 + 256 * (a5 + 256 * (a6 + 256 * a7))))) := by
    rw [Nat.add_mul_div_left _ _ (by decide), Nat.div_eq_of_lt (by omega), Nat.zero_add]
    rfl
  simp only [f1]
  have hb : a0 + 256 * (a1 + 256 * (a2 + 256 * (a3 + 256 * (a4 + 256 * (a5 + 256 * (a6 + 256 * (a7 + 256 * 0))))))) + (a1 + 256 * (a2 + 256 * (a3 + 256 * (a4 + 256 * (a5 + 256 * (a6 + 256 * a7)))))) =
      (a0 + a1) + 256 * (a1 + a2) + 65536 * ((a2 + a3) + 256 * (a3 + a4) + 65536 * (a4 + a5) + 16777216 * (a5 + a6) + 4294967296 * (a6 + a7) + 1099511627776 * a7) := by clear f1 p0 p1 p2 p3 p4 p5 p6 p7; omega
  rw [hb, low_b _ _ _ (by omega)]
  have hc : (a0 + a1) + 256 * (a1 + a2) + 65536 * ((a2 + a3) + 256 * (a3 + a4) + 65536 * (a4 + a5) + 16777216 * (a5 + a6) + 4294967296 * (a6 + a7) + 1099511627776 * a7) + ((a2 + a3) + 256 * (a3 + a4) + 65536 * (a4 + a5) + 16777216 * (a5 + a6) + 4294967296 * (a6 + a7) + 1099511627776 * a7) =
      (a0 + a1 + a2 + a3 + 256 * (a1 + a2 + a3 + a4) + 65536 * (a2 + a3 + a4 + a5) + 16777216 * (a3 + a4 + a5 + a6)) + 4294967296 * (a4 + a5 + a6 + a7 + 256 * (a5 + a6 + a7) + 65536 * (a6 + a7) + 16777216 * a7) := by clear f1 hb p0 p1 p2 p3 p4 p5 p6 p7; omega
  rw [hc, low_c _ _ (by clear f1 hb hc; omega)]
  have hd : (a0 + a1 + a2 + a3 + 256 * (a1 + a2 + a3 + a4) + 65536 * (a2 + a3 + a4 + a5) + 16777216 * (a3 + a4 + a5 + a6)) + 4294967296 * (a4 + a5 + a6 + a7 + 256 * (a5 + a6 + a7) + 65536 * (a6 + a7) + 16777216 * a7) + (a4 + a5 + a6 + a7 + 256 * (a5 + a6 + a7) + 65536 * (a6 + a7) + 16777216 * a7) =
      (a0 + a1 + a2 + a3 + a4 + a5 + a6 + a7) + 128 * (2 * (a1 + a2 + a3 + a4) + 512 * (a2 + a3 + a4 + a5) + 131072 * (a3 + a4 + a5 + a6)) + 128 * (33554432 * (a4 + a5 + a6 + a7 + 256 * (a5 + a6 + a7) + 65536 * (a6 + a7) + 16777216 * a7) + 2 * (a5 + a6 + a7) + 512 * (a6 + a7) + 131072 * a7) := by clear f1 hb hc p0 p1 p2 p3 p4 p5 p6 p7; omega
  rw [hd, low_d _ _ _ (by clear f1 hb hc hd; omega)]
theorem popG_bits {x : Nat} (hx : x < 18446744073709551616) : popG x = bitsOf 64 x := by
  have h := (s12 8 x (fun h => absurd h (by decide))).2
  have e1 : rep 85 8 = 6148914691236517205 := by decide
  have e2 : rep 51 8 = 3689348814741910323 := by decide
  have e3 : rep 15 8 = 1085102592571150095 := by decide
  rw [e1, e2, e3] at h
  unfold popG
  simp only [h, popN]
  have d (k : Nat) : x / 256 ^ k / 256 = x / 256 ^ (k + 1) := by rw [Nat.div_div_eq_div_mul, Nat.pow_succ]
  obtain ⟨p0, q0⟩ := pop8_bits x
  obtain ⟨p1, q1⟩ := pop8_bits (x / 256)
  obtain ⟨p2, q2⟩ := pop8_bits (x / 256 / 256)
  obtain ⟨p3, q3⟩ := pop8_bits (x / 256 / 256 / 256)
  obtain ⟨p4, q4⟩ := pop8_bits (x / 256 / 256 / 256 / 256)
  obtain ⟨p5, q5⟩ := pop8_bits (x / 256 / 256 / 256 / 256 / 256)
  obtain ⟨p6, q6⟩ := pop8_bits (x / 256 / 256 / 256 / 256 / 256 / 256)
  obtain ⟨p7, q7⟩ := pop8_bits (x / 256 / 256 / 256 / 256 / 256 / 256 / 256)
  have hb : bitsOf 64 x = pop8 (x % 256) + pop8 (x / 256 % 256) + pop8 (x / 256 / 256 % 256) + pop8 (x / 256 / 256 / 256 % 256) + pop8 (x / 256 / 256 / 256 / 256 % 256) + pop8 (x / 256 / 256 / 256 / 256 / 256 % 256) + pop8 (x / 256 / 256 / 256 / 256 / 256 / 256 % 256) + pop8 (x / 256 / 256 / 256 / 256 / 256 / 256 / 256 % 256) := by
    rw [q0, q1, q2, q3, q4, q5, q6, q7]
    have s (m x : Nat) : bitsOf (8 + m) x = bitsOf 8 x + bitsOf m (x / 256) := bitsOf_add 8 m x
    rw [show (64 : Nat) = 8 + (8 + (8 + (8 + (8 + (8 + (8 + 8)))))) from rfl, s, s, s, s, s, s, s]
    omega
  rw [hb]
  generalize pop8 (x % 256) = a0 at *
  generalize pop8 (x / 256 % 256) = a1 at *
  generalize pop8 (x / 256 / 256 % 256) = a2 at *
  generalize pop8 (x / 256 / 256 / 256 % 256) = a3 at *
  generalize pop8 (x / 256 / 256 / 256 / 256 % 256) = a4 at *
  generalize pop8 (x / 256 / 256 / 256 / 256 / 256 % 256) = a5 at *
  generalize pop8 (x / 256 / 256 / 256 / 256 / 256 / 256 % 256) = a6 at *
  generalize pop8 (x / 256 / 256 / 256 / 256 / 256 / 256 / 256 % 256) = a7 at *
  exact low8 p0 p1 p2 p3 p4 p5 p6 p7
/-- The number of a set's elements. -/
theorem els_length (S : Nat) : (els S).length = bitsOf 1024 S := by unfold els bitsOf; rw [List.length_map]
theorem bits_words (S : Nat) : ∀ k, bitsOf (64 * (k + 1)) S = bitsOf (64 * k) S + bitsOf 64 (wdS S k) := by
  intro k
  rw [show 64 * (k + 1) = 64 * k + 64 by omega, bitsOf_add]
  unfold wdS
  rw [bitsOf_mod]

theorem bitsOf_succ (n x : Nat) : bitsOf (n + 1) x = bitsOf n x + (x.testBit n).toNat := by
  unfold bitsOf
  rw [List.range_succ, List.filter_append, List.length_append]
  congr 1
  cases h : x.testBit n with
  | true => rw [List.filter_cons_of_pos h]; rfl
  | false => rw [List.filter_cons_of_neg (by rw [h]; decide)]; rfl
theorem bits_or_and (S T : Nat) : ∀ n, bitsOf n (S ||| T) + bitsOf n (S &&& T) = bitsOf n S + bitsOf n T
  | 0 => rfl
  | n + 1 => by
    have ih := bits_or_and S T n
    rw [bitsOf_succ, bitsOf_succ, bitsOf_succ, bitsOf_succ, Nat.testBit_or, Nat.testBit_and]
    cases S.testBit n <;> cases T.testBit n <;> simp <;> omega
/-- The number of elements by words. -/
def cntW (S : Nat) : Nat → Nat
  | 0 => 0
  | k + 1 => cntW S k + popG (wdS S k)
theorem cntW_eq (S : Nat) : ∀ k, cntW S k = bitsOf (64 * k) S
  | 0 => rfl
  | k + 1 => by
    unfold cntW
    rw [cntW_eq S k, bits_words, popG_bits (wdS_lt _ _)]
theorem cntW_le (S k : Nat) : cntW S k ≤ 64 * k := by
  rw [cntW_eq]
  unfold bitsOf
  exact Nat.le_trans (List.length_filter_le _ _) (by rw [List.length_range]; exact Nat.le_refl _)
theorem cnt_all (S : Nat) : cntW S 16 = (els S).length := by rw [cntW_eq, els_length]
end Go.Bs

set_option linter.unusedSimpArgs false
set_option linter.unusedVariables false
namespace Go.Bs

theorem cmpN_anti (a b : Nat) : cmpN b a = -(cmpN a b) := by
  rcases Nat.lt_trichotomy a b with h | h | h
  · rw [cmpN_lt h, cmpN_gt h]; rfl
  · subst h; rw [cmpN_eq]; rfl
  · rw [cmpN_gt h, cmpN_lt h]
theorem cmpN_zero (a b : Nat) : cmpN a b = 0 ↔ a = b := by
  rcases Nat.lt_trichotomy a b with h | h | h
  · rw [cmpN_lt h]; omega
  · subst h; rw [cmpN_eq]; simp
  · rw [cmpN_gt h]; omega
theorem cmpN_range (a b : Nat) : -1 ≤ cmpN a b ∧ cmpN a b ≤ 1 := by
  rcases Nat.lt_trichotomy a b with h | h | h
  · rw [cmpN_lt h]; omega
  · subst h; rw [cmpN_eq]; omega
  · rw [cmpN_gt h]; omega
theorem cmpN_le (a b : Nat) : cmpN a b ≤ 0 ↔ a ≤ b := by
  rcases Nat.lt_trichotomy a b with h | h | h
  · rw [cmpN_lt h]; omega
  · subst h; rw [cmpN_eq]; omega
  · rw [cmpN_gt h]; omega
theorem cmpN_ge (a b : Nat) : 0 ≤ cmpN a b ↔ b ≤ a := by
  rcases Nat.lt_trichotomy a b with h | h | h
  · rw [cmpN_lt h]; omega
  · subst h; rw [cmpN_eq]; omega
  · rw [cmpN_gt h]; omega
theorem cmpN_pos (a b : Nat) : 0 < cmpN a b ↔ b < a := by
  rcases Nat.lt_trichotomy a b with h | h | h
  · rw [cmpN_lt h]; omega
  · subst h; rw [cmpN_eq]; omega
  · rw [cmpN_gt h]; omega
theorem or_ge (a b : Nat) : 0 ≤ cmpN (a ||| b) a := (cmpN_ge _ _).2 Nat.left_le_or
theorem and_le (a b : Nat) : cmpN (a &&& b) a ≤ 0 := (cmpN_le _ _).2 Nat.and_le_left
theorem min_zero {b a : Nat} (h : a ||| b = a) : minS b a = 0 := by
  refine Nat.eq_of_testBit_eq fun i => ?_
  have := congrArg (fun x => x.testBit i) h
  simp only [Nat.testBit_or] at this
  rw [tb_minS, Nat.zero_testBit]
  cases ha : a.testBit i <;> cases hb : b.testBit i <;> simp_all
theorem or_gt (a b : Nat) : a = b ∨ 0 < cmpN (a ||| b) a ∨ minS b a = 0 := by
  by_cases h : a ||| b = a
  · exact .inr (.inr (min_zero h))
  · refine .inr (.inl ((cmpN_pos _ _).2 ?_))
    have : a ≤ a ||| b := Nat.left_le_or
    omega
/-! algebra -/
theorem bool_ext {x y : Nat} (h : ∀ i, x.testBit i = y.testBit i) : x = y := Nat.eq_of_testBit_eq h
theorem min_or (a b c : Nat) : minS a (b ||| c) = minS a b &&& minS a c := bool_ext fun i => by
  rw [tb_minS, Nat.testBit_or, Nat.testBit_and, tb_minS, tb_minS]
  cases a.testBit i <;> cases b.testBit i <;> cases c.testBit i <;> rfl
theorem and_or (a b c : Nat) : a &&& (b ||| c) = (a &&& b) ||| (a &&& c) := bool_ext fun i => by
  rw [Nat.testBit_and, Nat.testBit_or, Nat.testBit_or, Nat.testBit_and, Nat.testBit_and]
  cases a.testBit i <;> cases b.testBit i <;> cases c.testBit i <;> rfl
theorem min_or_and (a b : Nat) : minS a b ||| (a &&& b) = a := bool_ext fun i => by
  rw [Nat.testBit_or, tb_minS, Nat.testBit_and]
  cases a.testBit i <;> cases b.testBit i <;> rfl
theorem min_self (a : Nat) : minS a a = 0 := bool_ext fun i => by
  rw [tb_minS, Nat.zero_testBit]; cases a.testBit i <;> rfl
theorem sub_iff (a b : Nat) : minS a b = 0 ↔ a &&& b = a := by
  constructor
  · intro h
    refine bool_ext fun i => ?_
    have := congrArg (fun x => x.testBit i) h
    simp only [tb_minS, Nat.zero_testBit] at this
    rw [Nat.testBit_and]
    cases ha : a.testBit i <;> cases hb : b.testBit i <;> simp_all
  · intro h
    refine bool_ext fun i => ?_
    have := congrArg (fun x => x.testBit i) h
    simp only [Nat.testBit_and] at this
    rw [tb_minS, Nat.zero_testBit]
    cases ha : a.testBit i <;> cases hb : b.testBit i <;> simp_all
end Go.Bs
