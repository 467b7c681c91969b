/- Numbers as digits to a base. No condition. -/
import Derived.Lib.Atoi
import Derived.Lib.ItoaNum
import Derived.Lib.Join
import Derived.Lib.RepeatB

set_option linter.unusedSimpArgs false
set_option linter.unusedVariables false
namespace Go.Bn
/-- The number that digits spell, the lowest first. -/
def val (B : Nat) : List Nat → Nat
  | [] => 0
  | d :: r => d + B * val B r
/-- Every digit is one. -/
def Dg (B : Nat) (l : List Nat) : Prop := ∀ d ∈ l, d < B
/-- Digits without idle zeros. -/
def Cn (B : Nat) (l : List Nat) : Prop := Dg B l ∧ ∀ d, l.getLast? = some d → d ≠ 0
def dig (B n : Nat) : List Nat := if h : n = 0 ∨ B < 2 then [] else n % B :: dig B (n / B)
termination_by n
decreasing_by exact Nat.div_lt_self (by omega) (by omega)
def trimR : List Nat → List Nat
  | [] => []
  | d :: r => if trimR r = [] ∧ d = 0 then [] else d :: trimR r
variable {B : Nat}
theorem val_append : ∀ a b : List Nat, val B (a ++ b) = val B a + B ^ a.length * val B b
  | [], b => by rw [List.nil_append, List.length_nil, Nat.pow_zero, Nat.one_mul]; show _ = 0 + _; omega
  | d :: r, b => by
    have ih := val_append r b
    show d + B * val B (r ++ b) = d + B * val B r + B ^ (r.length + 1) * val B b
    rw [ih, Nat.pow_succ, Nat.mul_add, Nat.mul_comm (B ^ r.length) B, Nat.mul_assoc]; omega
theorem val_one (d : Nat) : val B [d] = d := by show d + B * 0 = d; omega
theorem val_snoc (a : List Nat) (d : Nat) : val B (a ++ [d]) = val B a + B ^ a.length * d := by rw [val_append, val_one]
theorem val_take {l : List Nat} {i d : Nat} (h : l[i]? = some d) : val B (l.take (i + 1)) = val B (l.take i) + B ^ i * d := by
  have hi := (List.getElem?_eq_some_iff.1 h).1
  rw [List.take_add_one, h, Option.toList_some, val_snoc, List.length_take, Nat.min_eq_left (by omega)]
theorem val_zeros (n : Nat) : val B (List.replicate n 0) = 0 := by
  induction n with
  | zero => rfl
  | succ n ih => rw [List.replicate_succ]; show 0 + B * _ = 0; rw [ih, Nat.mul_zero]
theorem Dg.tail {d : Nat} {r : List Nat} (h : Dg B (d :: r)) : Dg B r := fun x hx => h x (List.mem_cons_of_mem _ hx)
theorem Dg.take {l : List Nat} (h : Dg B l) (i : Nat) : Dg B (l.take i) := fun x hx => h x (List.mem_of_mem_take hx)
theorem Dg.drop {l : List Nat} (h : Dg B l) (i : Nat) : Dg B (l.drop i) := fun x hx => h x (List.mem_of_mem_drop hx)
theorem Dg.append {a b : List Nat} (h : Dg B a) (k : Dg B b) : Dg B (a ++ b) := fun x hx => by
  rcases List.mem_append.1 hx with hx | hx
  · exact h x hx
  · exact k x hx
theorem Dg.snoc {a : List Nat} {d : Nat} (h : Dg B a) (k : d < B) : Dg B (a ++ [d]) := h.append fun x hx => by rw [List.mem_singleton] at hx; subst hx; exact k
theorem Dg.at {l : List Nat} (h : Dg B l) {i d : Nat} (hd : l[i]? = some d) : d < B := h d (List.mem_of_getElem? hd)
theorem val_lt : ∀ {l : List Nat}, Dg B l → val B l < B ^ l.length
  | [], _ => by rw [List.length_nil, Nat.pow_zero]; exact Nat.zero_lt_one
  | d :: r, h => by
    have ih := val_lt h.tail
    have hd := h d (List.mem_cons_self ..)
    show d + B * val B r < B ^ (r.length + 1)
    rw [Nat.pow_succ]
    have h1 : B * val B r + B ≤ B ^ r.length * B := by
      have := Nat.mul_le_mul_left B (show val B r + 1 ≤ B ^ r.length from ih)
      rw [Nat.mul_add, Nat.mul_one, Nat.mul_comm B (B ^ r.length)] at this
      exact this
    omega
theorem dig_zero (B : Nat) : dig B 0 = [] := by rw [dig, dif_pos (.inl rfl)]
theorem dig_pos {n : Nat} (hB : 2 ≤ B) (h : n ≠ 0) : dig B n = n % B :: dig B (n / B) := by rw [dig, dif_neg (by omega)]
theorem val_dig (hB : 2 ≤ B) : ∀ n, val B (dig B n) = n := by
  intro n
  induction n using Nat.strongRecOn with
  | _ n ih =>
    by_cases h : n = 0
    · subst h; rw [dig_zero]; rfl
    · rw [dig_pos hB h]
      show n % B + B * val B (dig B (n / B)) = n
      rw [ih (n / B) (Nat.div_lt_self (by omega) (by omega))]
      exact Nat.mod_add_div n B
theorem dig_dg (hB : 2 ≤ B) : ∀ n, Dg B (dig B n) := by
  intro n
  induction n using Nat.strongRecOn with
  | _ n ih =>
    by_cases h : n = 0
    · subst h; rw [dig_zero]; intro d hd; cases hd
    · rw [dig_pos hB h]
      intro d hd
      rcases List.mem_cons.1 hd with rfl | hd
      · exact Nat.mod_lt _ (by omega)
      · exact ih (n / B) (Nat.div_lt_self (by omega) (by omega)) d hd
theorem dig_nil (hB : 2 ≤ B) {n : Nat} : dig B n = [] ↔ n = 0 := by
  constructor
  · intro h
    refine Classical.byContradiction fun hn => ?_
    rw [dig_pos hB hn] at h; cases h
  · rintro rfl; exact dig_zero B
theorem Cn.tail {d : Nat} {r : List Nat} (h : Cn B (d :: r)) : Cn B r := ⟨h.1.tail, fun x hx => by
  cases r with
  | nil => cases hx
  | cons y ys => exact h.2 x (by rw [List.getLast?_cons_cons]; exact hx)⟩
theorem dig_cn (hB : 2 ≤ B) : ∀ n, Cn B (dig B n) := by
  intro n
  refine ⟨dig_dg hB n, ?_⟩
  induction n using Nat.strongRecOn with
  | _ n ih =>
    by_cases h : n = 0
    · subst h; rw [dig_zero]; intro d hd; cases hd
    · rw [dig_pos hB h]
      intro d hd
      by_cases h2 : n / B = 0
      · rw [h2, dig_zero] at hd
        have hd : n % B = d := Option.some.inj hd
        subst hd
        have := Nat.mod_add_div n B
        rw [h2, Nat.mul_zero] at this
        omega
      · have ih := ih (n / B) (Nat.div_lt_self (by omega) (by omega)) d
        rw [dig_pos hB h2] at hd ih
        rw [List.getLast?_cons_cons] at hd
        exact ih hd
/-- A number has one spelling. -/
theorem dig_val (hB : 2 ≤ B) : ∀ {l : List Nat}, Cn B l → dig B (val B l) = l
  | [], _ => dig_zero B
  | d :: r, h => by
    have ih := dig_val hB h.tail
    have hd := h.1 d (List.mem_cons_self ..)
    have e1 : (d + B * val B r) % B = d := by rw [Nat.add_mul_mod_self_left, Nat.mod_eq_of_lt hd]
    have e2 : (d + B * val B r) / B = val B r := by rw [Nat.add_mul_div_left _ _ (by omega), Nat.div_eq_of_lt hd, Nat.zero_add]
    have hne : val B (d :: r) ≠ 0 := by
      intro e
      have e : d + B * val B r = 0 := e
      have hd0 : d = 0 := by omega
      have hv : B * val B r = 0 := by omega
      have hv : val B r = 0 := by
        rcases Nat.mul_eq_zero.1 hv with h | h
        · omega
        · exact h
      rw [hv, dig_zero] at ih
      subst hd0
      rw [← ih] at h
      exact h.2 0 rfl rfl
    rw [dig_pos hB hne]
    show (d + B * val B r) % B :: dig B ((d + B * val B r) / B) = d :: r
    rw [e1, e2, ih]
theorem trimR_val : ∀ l : List Nat, val B (trimR l) = val B l
  | [] => rfl
  | d :: r => by
    have ih := trimR_val r
    unfold trimR
    by_cases h : trimR r = [] ∧ d = 0
    · rw [if_pos h]
      rw [h.1] at ih
      show 0 = d + B * val B r
      rw [← ih, h.2]; show 0 = 0 + B * 0; omega
    · rw [if_neg h]
      show d + B * val B (trimR r) = d + B * val B r
      rw [ih]
theorem trimR_cn : ∀ {l : List Nat}, Dg B l → Cn B (trimR l)
  | [], _ => ⟨(fun d hd => by cases hd), (fun d hd => by cases hd)⟩
  | d :: r, h => by
    have ih := trimR_cn h.tail
    unfold trimR
    by_cases hc : trimR r = [] ∧ d = 0
    · rw [if_pos hc]; exact ⟨(fun d hd => by cases hd), (fun d hd => by cases hd)⟩
    · rw [if_neg hc]
      refine ⟨fun x hx => ?_, fun x hx => ?_⟩
      · rcases List.mem_cons.1 hx with rfl | hx
        · exact h _ (List.mem_cons_self ..)
        · exact ih.1 x hx
      · cases ht : trimR r with
        | nil =>
          rw [ht] at hx
          have hx : d = x := Option.some.inj hx
          subst hx
          exact fun e => hc ⟨ht, e⟩
        | cons y ys =>
          rw [ht, List.getLast?_cons_cons, ← ht] at hx
          exact ih.2 x hx
/-- Trimmed digits are the number's own. -/
theorem trimR_dig (hB : 2 ≤ B) {l : List Nat} (h : Dg B l) : trimR l = dig B (val B l) := by
  rw [← trimR_val (B := B) l, dig_val hB (trimR_cn h)]
theorem trimR_stop {l : List Nat} (h : ∀ d, l.getLast? = some d → d ≠ 0) : trimR l = l := by
  induction l with
  | nil => rfl
  | cons d r ih =>
    have ihr : trimR r = r := ih fun x hx => by
      cases r with
      | nil => cases hx
      | cons y ys => exact h x (by rw [List.getLast?_cons_cons]; exact hx)
    unfold trimR
    rw [ihr, if_neg]
    rintro ⟨h1, h2⟩
    subst h1; subst h2
    exact h 0 rfl rfl
theorem trimR_zero {l : List Nat} : trimR (l ++ [0]) = trimR l := by
  induction l with
  | nil => rfl
  | cons d r ih => show (if trimR (r ++ [0]) = [] ∧ d = 0 then [] else d :: trimR (r ++ [0])) = _; rw [ih]; rfl
theorem trimR_len (l : List Nat) : (trimR l).length ≤ l.length := by
  induction l with
  | nil => exact Nat.le_refl _
  | cons d r ih =>
    unfold trimR
    split
    · exact Nat.zero_le _
    · rw [List.length_cons, List.length_cons]; omega
/-- How long a number is. -/
theorem dig_len (hB : 2 ≤ B) {n k : Nat} (h : n < B ^ k) : (dig B n).length ≤ k := by
  induction k generalizing n with
  | zero => rw [Nat.pow_zero] at h; have : n = 0 := by omega
            subst this; rw [dig_zero]; exact Nat.le_refl _
  | succ k ih =>
    by_cases h0 : n = 0
    · subst h0; rw [dig_zero]; exact Nat.zero_le _
    · rw [dig_pos hB h0, List.length_cons]
      have := ih (n := n / B) (Nat.div_lt_of_lt_mul (by rw [Nat.pow_succ, Nat.mul_comm] at h; exact h))
      omega
theorem dig_low (hB : 2 ≤ B) {n : Nat} (h : n ≠ 0) : B ^ ((dig B n).length - 1) ≤ n := by
  induction n using Nat.strongRecOn with
  | _ n ih =>
    rw [dig_pos hB h, List.length_cons, Nat.add_sub_cancel]
    by_cases h2 : n / B = 0
    · rw [h2, dig_zero, List.length_nil, Nat.pow_zero]; omega
    · have ih := ih (n / B) (Nat.div_lt_self (by omega) (by omega)) h2
      have hl : 0 < (dig B (n / B)).length := by rw [dig_pos hB h2, List.length_cons]; omega
      have e : (dig B (n / B)).length = (dig B (n / B)).length - 1 + 1 := by omega
      rw [e, Nat.pow_succ]
      exact Nat.le_trans (Nat.mul_le_mul_right B ih) (Nat.div_mul_le_self n B)
theorem dig_up (hB : 2 ≤ B) (n : Nat) : n < B ^ (dig B n).length := by
  have := val_lt (dig_dg hB n)
  rwa [val_dig hB] at this
/-- Order by length, then from the top. -/
theorem dig_lt (hB : 2 ≤ B) {m n : Nat} (h : (dig B m).length < (dig B n).length) : m < n := by
  have hn : n ≠ 0 := fun e => by subst e; rw [dig_zero] at h; exact Nat.not_lt_zero _ h
  have h1 := dig_up hB m
  have h2 := dig_low hB hn
  exact Nat.lt_of_lt_of_le h1 (Nat.le_trans (Nat.pow_le_pow_right (by omega) (by omega)) h2)
theorem val_top {a b : List Nat} {i x y : Nat} (ha : Dg B a) (hl : a.length = b.length) (hx : a[i]? = some x) (hy : b[i]? = some y) (hxy : x < y) (hd : a.drop (i + 1) = b.drop (i + 1)) : val B a < val B b := by
  have hi := (List.getElem?_eq_some_iff.1 hx).1
  have ea : val B a = val B (a.take (i + 1)) + B ^ (i + 1) * val B (a.drop (i + 1)) := by
    conv => lhs; rw [← List.take_append_drop (i + 1) a]
    rw [val_append, List.length_take, Nat.min_eq_left (by omega)]
  have eb : val B b = val B (b.take (i + 1)) + B ^ (i + 1) * val B (b.drop (i + 1)) := by
    conv => lhs; rw [← List.take_append_drop (i + 1) b]
    rw [val_append, List.length_take, Nat.min_eq_left (by omega)]
  rw [ea, eb, ← hd, val_take hx, val_take hy]
  have h1 := val_lt (ha.take i)
  rw [List.length_take, Nat.min_eq_left (by omega)] at h1
  have h2 : B ^ i * x + B ^ i ≤ B ^ i * y := by
    have := Nat.mul_le_mul_left (B ^ i) (show x + 1 ≤ y from hxy)
    rwa [Nat.mul_add, Nat.mul_one] at this
  omega
end Go.Bn

set_option linter.unusedSimpArgs false
set_option linter.unusedVariables false
namespace Go.Bn
open Go
/-! numerals -/
def isDg (b : UInt8) : Bool := decide (48 ≤ b.toNat) && decide (b.toNat ≤ 57)
def stepV (a : Nat) (b : UInt8) : Nat := 10 * a + (b.toNat - 48)
def valN (d : List UInt8) : Nat := d.foldl stepV 0
/-- A numeral as it is written: digits, at least one, none of them idle. -/
def Canon (d : List UInt8) : Prop := d ≠ [] ∧ (∀ b ∈ d, isDg b = true) ∧ ¬ (1 < d.length ∧ d.head? = some 48)
theorem valN_snoc (d : List UInt8) (b : UInt8) : valN (d ++ [b]) = 10 * valN d + (b.toNat - 48) := by
  unfold valN
  rw [List.foldl_append]; rfl
theorem bsnoc {P : List UInt8 → Prop} (h0 : P []) (h1 : ∀ l x, P l → P (l ++ [x])) : ∀ l, P l := by
  intro l
  rw [← List.reverse_reverse l]
  induction l.reverse with
  | nil => exact h0
  | cons x xs ih => rw [List.reverse_cons]; exact h1 _ _ ih
theorem dg_range {b : UInt8} (h : isDg b = true) : 48 ≤ b.toNat ∧ b.toNat ≤ 57 := by
  unfold isDg at h
  simpa using h
theorem u8_ext {a b : UInt8} (h : a.toNat = b.toNat) : a = b := UInt8.toNat_inj.1 h
theorem valN_low : ∀ d : List UInt8, (∀ b ∈ d, isDg b = true) → d ≠ [] → d.head? ≠ some 48 → 10 ^ (d.length - 1) ≤ valN d := by
  refine bsnoc (fun _ h => absurd rfl h) ?_
  intro d b ih hd _ hh
  rw [valN_snoc, List.length_append, List.length_singleton, Nat.add_sub_cancel]
  cases d with
  | nil =>
    have hb := dg_range (hd b (by simp))
    have hne : b.toNat ≠ 48 := fun e => hh (by rw [List.nil_append]; show some b = some 48; rw [u8_ext (a := b) (b := 48) e])
    simp only [List.length_nil, Nat.pow_zero]
    omega
  | cons x xs =>
    have h := ih (fun b hb => hd b (List.mem_append_left _ hb)) (by simp) (by simpa using hh)
    rw [List.length_cons, Nat.add_sub_cancel] at h
    rw [List.length_cons, Nat.pow_succ]
    omega
theorem valN_pos {d : List UInt8} (h1 : ∀ b ∈ d, isDg b = true) (h2 : d ≠ []) (h3 : d.head? ≠ some 48) : 1 ≤ valN d :=
  Nat.le_trans (Nat.pow_pos (by decide)) (valN_low d h1 h2 h3)
theorem Canon.dig : ∀ d : List UInt8, Canon d → Lib.decDigits (valN d) = d := by
  refine bsnoc (fun h => absurd rfl h.1) ?_
  intro d b ih h
  obtain ⟨_, hd, hh⟩ := h
  have hb := dg_range (hd b (by simp))
  rw [valN_snoc]
  cases d with
  | nil =>
    have e : 10 * valN [] + (b.toNat - 48) = b.toNat - 48 := by show 10 * 0 + _ = _; omega
    rw [e, Lib.decDigits, dif_pos (by omega), List.nil_append]
    congr 1
    exact u8_ext (by rw [UInt8.toNat_ofNat']; omega)
  | cons x xs =>
    have hx : (x :: xs).head? ≠ some 48 := fun e => hh ⟨by simp, by simpa using e⟩
    have hc : Canon (x :: xs) := ⟨by simp, fun b hb => hd b (List.mem_append_left _ hb), fun e => hx e.2⟩
    have hp := valN_pos hc.2.1 hc.1 hx
    rw [Lib.decDigits, dif_neg (by omega), show (10 * valN (x :: xs) + (b.toNat - 48)) / 10 = valN (x :: xs) by omega, ih hc]
    congr 2
    exact u8_ext (by rw [UInt8.toNat_ofNat']; omega)
theorem isDg_of {n : Nat} (h : n < 10) : isDg (UInt8.ofNat (48 + n)) = true := by
  unfold isDg
  rw [UInt8.toNat_ofNat', Nat.mod_eq_of_lt (by omega), decide_eq_true (by omega), decide_eq_true (by omega)]; rfl
theorem dig_ok : ∀ u : Nat, Canon (Lib.decDigits u) ∧ valN (Lib.decDigits u) = u ∧ (1 ≤ u → (Lib.decDigits u).head? ≠ some 48) := by
  intro u
  induction u using Nat.strongRecOn with
  | _ u ih =>
    by_cases h : u < 10
    · rw [Lib.decDigits, dif_pos h]
      refine ⟨⟨by simp, ?_, by simp⟩, ?_, ?_⟩
      · intro b hb
        rw [List.mem_singleton] at hb; subst hb; exact isDg_of h
      · show 10 * 0 + ((UInt8.ofNat (48 + u)).toNat - 48) = u
        rw [UInt8.toNat_ofNat', Nat.mod_eq_of_lt (by omega)]; omega
      · intro hu e
        have e : (some (UInt8.ofNat (48 + u))).map (·.toNat) = some (48 : UInt8).toNat := congrArg (Option.map (·.toNat)) e
        rw [Option.map_some, UInt8.toNat_ofNat', Nat.mod_eq_of_lt (by omega)] at e
        injection e with e
        have e : 48 + u = 48 := e
        omega
    · obtain ⟨⟨h1, h2, h3⟩, h4, h5⟩ := ih (u / 10) (by omega)
      rw [Lib.decDigits, dif_neg h]
      have hh : (Lib.decDigits (u / 10) ++ [UInt8.ofNat (48 + u % 10)]).head? = (Lib.decDigits (u / 10)).head? := by
        cases hc : Lib.decDigits (u / 10) with
        | nil => exact absurd hc h1
        | cons x xs => rfl
      refine ⟨⟨by simp, ?_, ?_⟩, ?_, ?_⟩
      · intro b hb
        rcases List.mem_append.1 hb with hb | hb
        · exact h2 b hb
        · rw [List.mem_singleton] at hb; subst hb; exact isDg_of (by omega)
      · rintro ⟨_, e⟩
        rw [hh] at e
        exact h5 (by omega) e
      · rw [valN_snoc, h4, UInt8.toNat_ofNat', Nat.mod_eq_of_lt (by omega)]; omega
      · intro _ e
        rw [hh] at e
        exact h5 (by omega) e
theorem valN_dec (d : List UInt8) : (∀ b ∈ d, isDg b = true) → ∀ a : Nat, Lib.decFrom a d = some (d.foldl stepV a) := by
  induction d with
  | nil => intro _ a; rfl
  | cons b r ih =>
    intro h a
    have hb := dg_range (h b (List.mem_cons_self ..))
    rw [Lib.decFrom, Lib.digitVal, if_pos hb, List.foldl_cons]
    show Lib.decFrom (a * 10 + (b.toNat - 48)) r = _
    rw [ih (fun x hx => h x (List.mem_cons_of_mem _ hx))]
    unfold stepV
    rw [Nat.mul_comm a 10]
theorem atoi_canon {d : List UInt8} (h0 : d ≠ []) (h : ∀ b ∈ d, isDg b = true) : Lib.atoi d = some ((valN d : Nat) : Int) := by
  cases d with
  | nil => exact absurd rfl h0
  | cons b r =>
    have hb := dg_range (h b (List.mem_cons_self ..))
    have e1 : (b == 45) = false := by
      rw [beq_eq_false_iff_ne]; intro e; subst e; exact absurd hb.1 (by decide)
    have e2 : (b == 43) = false := by
      rw [beq_eq_false_iff_ne]; intro e; subst e; exact absurd hb.1 (by decide)
    unfold Lib.atoi
    simp only [e1, e2, Bool.false_eq_true, if_false]
    rw [Lib.decNat, if_neg (by simp), valN_dec _ h]; rfl
theorem valN_lt : ∀ d : List UInt8, (∀ b ∈ d, isDg b = true) → valN d < 10 ^ d.length := by
  refine bsnoc (fun _ => by decide) ?_
  intro d b ih h
  have h1 := ih fun x hx => h x (List.mem_append_left _ hx)
  have hb := dg_range (h b (by simp))
  rw [valN_snoc, List.length_append, List.length_singleton, Nat.pow_succ]
  omega

/-- The digits of a number, as bytes, the highest first. -/
def bytesOf (l : List Nat) : List UInt8 := l.reverse.map fun d => UInt8.ofNat (48 + d)
theorem dec_text : ∀ n : Nat, n ≠ 0 → bytesOf (dig 10 n) = Lib.decDigits n := by
  intro n
  induction n using Nat.strongRecOn with
  | _ n ih =>
    intro hn
    rw [dig_pos (by decide) hn]
    unfold bytesOf
    rw [List.reverse_cons, List.map_append]
    by_cases h : n < 10
    · rw [Nat.div_eq_of_lt h, dig_zero, Lib.decDigits, dif_pos h, Nat.mod_eq_of_lt h]; rfl
    · rw [Lib.decDigits, dif_neg h, ← ih (n / 10) (by omega) (by omega)]
      rfl
theorem valN_bytes : ∀ l : List Nat, Dg 10 l → valN (bytesOf l) = val 10 l
  | [], _ => rfl
  | d :: r, h => by
    have ih := valN_bytes r h.tail
    have hd := h d (List.mem_cons_self ..)
    unfold bytesOf at ih ⊢
    rw [List.reverse_cons, List.map_append, List.map_cons, List.map_nil, valN_snoc, ih, UInt8.toNat_ofNat', Nat.mod_eq_of_lt (by omega)]
    show _ = d + 10 * val 10 r
    omega
theorem bytes_dg {l : List Nat} (h : Dg 10 l) : ∀ b ∈ bytesOf l, isDg b = true := by
  intro b hb
  obtain ⟨d, hd, rfl⟩ := List.mem_map.1 hb
  exact isDg_of (h d (List.mem_reverse.1 hd))
end Go.Bn

set_option linter.unusedSimpArgs false
set_option linter.unusedVariables false
namespace Go.Bn
variable {B : Nat}
/-- The digit at a place; none beyond the last. -/
def atD (l : List Nat) (i : Nat) : Nat := l.getD i 0
theorem atD_in {l : List Nat} {i d : Nat} (h : l[i]? = some d) : atD l i = d := by unfold atD; rw [List.getD_eq_getElem?_getD, h]; rfl
theorem atD_out {l : List Nat} {i : Nat} (h : l.length ≤ i) : atD l i = 0 := by unfold atD; rw [List.getD_eq_getElem?_getD, List.getElem?_eq_none h]; rfl
theorem atD_lt {l : List Nat} (h : Dg B l) (hB : 0 < B) (i : Nat) : atD l i < B := by
  rcases Nat.lt_or_ge i l.length with hi | hi
  · rw [atD_in (List.getElem?_eq_getElem hi)]; exact h _ (List.getElem_mem hi)
  · rw [atD_out hi]; exact hB
theorem val_takeD (l : List Nat) (i : Nat) : val B (l.take (i + 1)) = val B (l.take i) + B ^ i * atD l i := by
  rcases Nat.lt_or_ge i l.length with hi | hi
  · rw [atD_in (List.getElem?_eq_getElem hi)]; exact val_take (List.getElem?_eq_getElem hi)
  · rw [atD_out hi, List.take_of_length_le (by omega), List.take_of_length_le hi]; omega
theorem val_take_all {l : List Nat} {i : Nat} (h : l.length ≤ i) : val B (l.take i) = val B l := by rw [List.take_of_length_le h]
theorem pow_split (B i s : Nat) : B ^ i * (s % B) + B ^ (i + 1) * (s / B) = B ^ i * s := by
  rw [Nat.pow_succ, Nat.mul_assoc, ← Nat.mul_add, Nat.mod_add_div]
/-- What is done of a sum: the digits so far, and the carry. -/
structure AddI (B : Nat) (a b : List Nat) (i : Nat) (out : List Nat) (c : Nat) : Prop where
  len : out.length = i
  dg : Dg B out
  v : val B out + B ^ i * c = val B (a.take i) + val B (b.take i)
  c1 : c ≤ 1
theorem AddI.zero (a b : List Nat) : AddI B a b 0 [] 0 := ⟨rfl, (fun d h => by cases h), by rw [List.take_zero, List.take_zero, Nat.mul_zero]; rfl, Nat.zero_le _⟩
theorem AddI.step {a b out : List Nat} {i c : Nat} (hB : 2 ≤ B) (ha : Dg B a) (hb : Dg B b) (h : AddI B a b i out c) : AddI B a b (i + 1) (out ++ [(atD a i + atD b i + c) % B]) ((atD a i + atD b i + c) / B) := by
  have h1 := atD_lt ha (by omega) i
  have h2 := atD_lt hb (by omega) i
  have h3 := h.c1
  have h4 := h.v
  refine ⟨by rw [List.length_append, List.length_singleton, h.len], h.dg.snoc (Nat.mod_lt _ (by omega)), ?_, ?_⟩
  · rw [val_snoc, h.len, val_takeD, val_takeD, Nat.add_assoc, pow_split, Nat.mul_add, Nat.mul_add]
    omega
  · have : (atD a i + atD b i + c) / B < 2 := Nat.div_lt_of_lt_mul (by omega)
    omega
theorem AddI.done {a b out : List Nat} {i : Nat} (h : AddI B a b i out 0) (ha : a.length ≤ i) (hb : b.length ≤ i) : val B out = val B a + val B b := by
  have := h.v
  rw [val_take_all ha, val_take_all hb, Nat.mul_zero] at this
  omega
theorem AddI.carry {a b out : List Nat} {i c : Nat} (h : AddI B a b i out c) (ha : a.length ≤ i) (hb : b.length ≤ i) : val B (out ++ [c]) = val B a + val B b := by
  have := h.v
  rw [val_take_all ha, val_take_all hb] at this
  rw [val_snoc, h.len]; exact this
/-- What is done of a difference: the digits so far, and the borrow. -/
structure SubI (B : Nat) (a b : List Nat) (i : Nat) (out : List Nat) (c : Nat) : Prop where
  len : out.length = i
  dg : Dg B out
  v : val B out + val B (b.take i) = val B (a.take i) + B ^ i * c - B ^ i * 0
  le : val B (b.take i) ≤ val B (a.take i) + B ^ i * c
  c1 : c ≤ 1
theorem SubI.zero (a b : List Nat) : SubI B a b 0 [] 0 := ⟨rfl, (fun d h => by cases h), by rw [List.take_zero, List.take_zero, Nat.mul_zero]; rfl, by rw [List.take_zero, List.take_zero]; exact Nat.zero_le _, Nat.zero_le _⟩
theorem SubI.step {a b out : List Nat} {i c d e : Nat} (hB : 2 ≤ B) (h : SubI B a b i out c) (hd : d < B) (he : e ≤ 1) (hs : d + atD b i + c = atD a i + B * e) : SubI B a b (i + 1) (out ++ [d]) e := by
  have h4 := h.v
  rw [Nat.mul_zero, Nat.sub_zero] at h4
  have key : B ^ i * d + B ^ i * atD b i + B ^ i * c = B ^ i * atD a i + B ^ (i + 1) * e := by
    rw [Nat.pow_succ, Nat.mul_assoc, ← Nat.mul_add, ← Nat.mul_add, ← Nat.mul_add, hs]
  have hv : val B (out ++ [d]) + val B (b.take (i + 1)) = val B (a.take (i + 1)) + B ^ (i + 1) * e := by
    rw [val_snoc, h.len, val_takeD, val_takeD]; omega
  exact ⟨by rw [List.length_append, List.length_singleton, h.len], h.dg.snoc hd, by rw [Nat.mul_zero, Nat.sub_zero]; exact hv, by omega, he⟩
theorem SubI.done {a b out : List Nat} {i c : Nat} (h : SubI B a b i out c) (ha : a.length = i) (hb : b.length ≤ i) (hle : val B b ≤ val B a) : val B out = val B a - val B b ∧ c = 0 := by
  have h4 := h.v
  rw [Nat.mul_zero, Nat.sub_zero, val_take_all (l := a) (by omega), val_take_all (l := b) hb] at h4
  have h5 := val_lt h.dg
  rw [h.len] at h5
  have hc : c = 0 := by
    refine Classical.byContradiction fun hc => ?_
    have : c = 1 := by have := h.c1; omega
    subst this
    omega
  subst hc
  exact ⟨by omega, rfl⟩
/-- A digit written over. -/
theorem val_set {l : List Nat} {i d x : Nat} (h : l[i]? = some d) : val B (l.set i x) + B ^ i * d = val B l + B ^ i * x := by
  induction l generalizing i with
  | nil => simp at h
  | cons y r ih =>
    cases i with
    | zero =>
      rw [List.getElem?_cons_zero, Option.some.injEq] at h
      subst h
      show x + B * val B r + B ^ 0 * y = y + B * val B r + B ^ 0 * x
      rw [Nat.pow_zero, Nat.one_mul, Nat.one_mul]; omega
    | succ i =>
      rw [List.getElem?_cons_succ] at h
      have := ih h
      show y + B * val B (r.set i x) + B ^ (i + 1) * d = y + B * val B r + B ^ (i + 1) * x
      rw [Nat.pow_succ, Nat.mul_comm (B ^ i) B, Nat.mul_assoc, Nat.mul_assoc]
      have h2 : B * (val B (r.set i x) + B ^ i * d) = B * (val B r + B ^ i * x) := by rw [this]
      rw [Nat.mul_add, Nat.mul_add] at h2
      omega
theorem Dg.set {l : List Nat} (h : Dg B l) {x : Nat} (hx : x < B) (i : Nat) : Dg B (l.set i x) := fun d hd => by
  rcases List.mem_or_eq_of_mem_set hd with hd | rfl
  · exact h d hd
  · exact hx
/-- One row of a product: after k digits of b. -/
structure MulI (B : Nat) (out0 : List Nat) (b : List Nat) (i x k : Nat) (out : List Nat) (c : Nat) : Prop where
  len : out.length = out0.length
  dg : Dg B out
  v : val B out + B ^ (i + k) * c = val B out0 + B ^ i * (x * val B (b.take k))
  c1 : c < B
  hi : ∀ j, i + k ≤ j → out[j]? = out0[j]?
theorem MulI.zero {out0 b : List Nat} {i x : Nat} (hB : 2 ≤ B) (h : Dg B out0) : MulI B out0 b i x 0 out0 0 := ⟨rfl, h, by rw [List.take_zero, Nat.mul_zero]; show _ = _ + B ^ i * (x * 0); rw [Nat.mul_zero, Nat.mul_zero], by omega, fun _ _ => rfl⟩
theorem MulI.step {out0 b out : List Nat} {i x k c o y : Nat} (hB : 2 ≤ B) (hx : x < B) (hb : Dg B b) (h : MulI B out0 b i x k out c) (ho : out[i + k]? = some o) (hy : atD b k = y) : MulI B out0 b i x (k + 1) (out.set (i + k) ((x * y + o + c) % B)) ((x * y + o + c) / B) := by
  have h1 : y < B := by rw [← hy]; exact atD_lt hb (by omega) k
  have h2 : o < B := h.dg.at ho
  have h3 := h.c1
  have h4 := h.v
  refine ⟨by rw [List.length_set, h.len], h.dg.set (Nat.mod_lt _ (by omega)) _, ?_, ?_, fun j hj => ?_⟩
  · have h5 := val_set (B := B) (x := (x * y + o + c) % B) ho
    have h6 := pow_split B (i + k) (x * y + o + c)
    rw [val_takeD, hy]
    have h7 : B ^ i * (x * (val B (b.take k) + B ^ k * y)) = B ^ i * (x * val B (b.take k)) + B ^ (i + k) * (x * y) := by
      rw [Nat.mul_add, Nat.mul_add, Nat.pow_add, Nat.mul_left_comm x (B ^ k) y, Nat.mul_assoc]
    rw [h7]
    have h8 : B ^ (i + k) * (x * y + o + c) = B ^ (i + k) * (x * y) + B ^ (i + k) * o + B ^ (i + k) * c := by rw [Nat.mul_add, Nat.mul_add]
    rw [show i + (k + 1) = i + k + 1 by omega]
    omega
  · refine Nat.div_lt_of_lt_mul ?_
    have h5 : x * y ≤ (B - 1) * (B - 1) := Nat.mul_le_mul (by omega) (by omega)
    have h6 : (B - 1) * (B - 1) + 2 * (B - 1) + 1 = B * B := by
      obtain ⟨m, rfl⟩ : ∃ m, B = m + 1 := ⟨B - 1, by omega⟩
      rw [Nat.add_sub_cancel, Nat.mul_add, Nat.add_mul, Nat.mul_one, Nat.one_mul]; omega
    omega
  · rw [List.getElem?_set_ne (by omega)]
    exact h.hi j (by omega)
/-- A row's end: the last carry is laid down. -/
theorem MulI.last {out0 b out : List Nat} {i x k c : Nat} (h : MulI B out0 b i x k out c) (hk : b.length ≤ k) (ho : out[i + k]? = some 0) : val B (out.set (i + k) c) = val B out0 + B ^ i * (x * val B b) := by
  have h1 := val_set (B := B) (x := c) ho
  have h2 := h.v
  rw [val_take_all hk] at h2
  rw [Nat.mul_zero] at h1
  omega
/-- A division by one digit, from the top: what is done. -/
structure ShI (B n : Nat) (a : List Nat) (i : Nat) (q : List Nat) (r : Nat) : Prop where
  len : q.length = a.length - i
  dg : Dg B q
  v : val B q * n + r = val B (a.drop i)
  lt : r < n
theorem ShI.zero {n : Nat} (hn : 0 < n) (a : List Nat) : ShI B n a a.length [] 0 := ⟨by rw [Nat.sub_self]; rfl, (fun d h => by cases h), by rw [List.drop_length]; show 0 * n + 0 = 0; omega, hn⟩
theorem ShI.step {n i x r : Nat} {a q : List Nat} (hB : 2 ≤ B) (hnB : n ≤ B) (ha : Dg B a) (h : ShI B n a (i + 1) q r) (hx : a[i]? = some x) : ShI B n a i ((r * B + x) / n :: q) ((r * B + x) % n) := by
  have hi := (List.getElem?_eq_some_iff.1 hx).1
  have hxB := ha.at hx
  have hr := h.lt
  have hdiv : (r * B + x) / n < B := Nat.div_lt_of_lt_mul (by
    have : r * B + B ≤ n * B := by
      have := Nat.mul_le_mul_right B (show r + 1 ≤ n from hr)
      rwa [Nat.add_mul, Nat.one_mul] at this
    omega)
  refine ⟨by rw [List.length_cons, h.len]; omega, fun d hd => ?_, ?_, Nat.mod_lt _ (by omega)⟩
  · rcases List.mem_cons.1 hd with rfl | hd
    · exact hdiv
    · exact h.dg d hd
  · have he : a[i]'hi = x := by rw [List.getElem?_eq_getElem hi] at hx; exact Option.some.inj hx
    rw [List.drop_eq_getElem_cons hi, he]
    show ((r * B + x) / n + B * val B q) * n + (r * B + x) % n = x + B * val B (a.drop (i + 1))
    rw [← h.v, Nat.add_mul, Nat.mul_add, Nat.mul_assoc]
    have := Nat.mod_add_div (r * B + x) n
    rw [Nat.mul_comm n] at this
    rw [Nat.mul_comm B r]
    omega
end Go.Bn

set_option linter.unusedSimpArgs false
set_option linter.unusedVariables false
namespace Go.Bn
/-- The guess is lowered while it is surely too great. -/
def gsL (B top next low : Nat) (q r : Nat) : Nat :=
  if h : q ≠ 0 ∧ (B - 1 < q ∨ r * B + low < q * next) then (if B - 1 < r + top then q - 1 else gsL B top next low (q - 1) (r + top)) else q
termination_by q
decreasing_by omega
/-- What is known of the numbers: U by its three highest digits, V by its two highest. -/
structure GsH (B top next low s U V P U2 V2 : Nat) : Prop where
  hV : V2 = top * B + next
  hU : U2 = s * B + low
  v1 : V2 * P ≤ V
  v2 : V < (V2 + 1) * P
  u1 : U2 * P ≤ U
  u2 : U < (U2 + 1) * P
  b2 : 2 ≤ B
  nx : next < B
  lo : low < B
  uv : U < V * B
  big : B + 1 ≤ V2
variable {B top next low s U V P U2 V2 : Nat}
theorem GsH.over (h : GsH B top next low s U V P U2 V2) {q : Nat} (hq : U2 < q * V2) : U / V < q := by
  refine Nat.div_lt_of_lt_mul ?_
  have h1 : (U2 + 1) * P ≤ q * V2 * P := Nat.mul_le_mul_right P hq
  have h2 : q * (V2 * P) ≤ q * V := Nat.mul_le_mul_left q h.v1
  rw [← Nat.mul_assoc] at h2
  have h3 := h.u2
  rw [Nat.mul_comm V q]
  omega
theorem GsH.over2 (h : GsH B top next low s U V P U2 V2) {q : Nat} (hq : B ≤ q) : U / V < q := by
  refine Nat.div_lt_of_lt_mul ?_
  exact Nat.lt_of_lt_of_le h.uv (Nat.mul_le_mul_left V hq)
theorem GsH.near (h : GsH B top next low s U V P U2 V2) {q : Nat} (hq : q * V2 ≤ U2) (hq2 : q ≤ B + 1) : q ≤ U / V + 1 := by
  refine Classical.byContradiction fun hc => ?_
  have hP : 0 < P := Nat.pos_of_ne_zero fun e => by
    have := h.v2
    rw [e, Nat.mul_zero] at this
    omega
  have hV : 0 < V := Nat.lt_of_lt_of_le (Nat.mul_pos (by have := h.big; omega) hP) h.v1
  have h2 : U < V * (U / V + 1) := Nat.lt_mul_div_succ U hV
  generalize U / V = t at *
  have h1 : U < V * (q - 1) := by
    exact Nat.lt_of_lt_of_le h2 (Nat.mul_le_mul_left V (by omega))
  have h3 : V * (q - 1) ≤ (V2 + 1) * P * (q - 1) := Nat.mul_le_mul_right _ (Nat.le_of_lt h.v2)
  have h4 : U2 * P < (V2 + 1) * (q - 1) * P := by
    have := h.u1
    rw [Nat.mul_right_comm (V2 + 1) (q - 1) P]
    omega
  have h5 : U2 < (V2 + 1) * (q - 1) := Nat.lt_of_mul_lt_mul_right h4
  obtain ⟨m, hm⟩ : ∃ m, q = m + 1 := ⟨q - 1, by omega⟩
  subst hm
  rw [Nat.add_sub_cancel, Nat.add_mul, Nat.one_mul] at h5
  rw [Nat.add_mul, Nat.one_mul, Nat.mul_comm m V2] at hq
  have := h.big
  omega
/-- The guess is right, or one too great. -/
theorem GsH.gs (h : GsH B top next low s U V P U2 V2) : ∀ (q r : Nat), q * top + r = s → U / V ≤ q → q ≤ B + 1 → r < B → U / V ≤ gsL B top next low q r ∧ gsL B top next low q r ≤ U / V + 1 := by
  have over := fun (q : Nat) (hq : U2 < q * V2) => h.over hq
  have over2 := fun (q : Nat) (hq : B ≤ q) => h.over2 hq
  have near := fun (q : Nat) (hq : q * V2 ≤ U2) (hq2 : q ≤ B + 1) => h.near hq hq2
  generalize U / V = t at *
  intro q
  induction q using Nat.strongRecOn with
  | _ q ih =>
    intro r hs h1 h2 h3
    have hval : q * V2 + r * B + low = U2 + q * next := by
      rw [h.hV, h.hU, ← hs, Nat.mul_add, Nat.add_mul, Nat.mul_assoc]; omega
    rw [gsL]
    by_cases hc : q ≠ 0 ∧ (B - 1 < q ∨ r * B + low < q * next)
    · rw [dif_pos hc]
      have hlt : t < q := by
        rcases hc.2 with hc2 | hc2
        · exact over2 _ (by have := h.b2; omega)
        · exact over _ (by omega)
      obtain ⟨m, rfl⟩ : ∃ m, q = m + 1 := ⟨q - 1, by omega⟩
      have hs2 : m * top + (r + top) = s := by rw [← hs, Nat.add_mul, Nat.one_mul]; omega
      rw [Nat.add_sub_cancel]
      by_cases hb : B - 1 < r + top
      · rw [if_pos hb]
        refine ⟨by omega, near _ ?_ (by omega)⟩
        have hval2 : m * V2 + (r + top) * B + low = U2 + m * next := by
          rw [h.hV, h.hU, ← hs2, Nat.mul_add, Nat.add_mul (m * top), Nat.mul_assoc]; omega
        have h5 : m * next ≤ B * (B - 1) := Nat.mul_le_mul (by omega) (by have := h.nx; omega)
        have h6 : B * B ≤ (r + top) * B := Nat.mul_le_mul_right B (by omega)
        have h7 : B * (B - 1) ≤ B * B := Nat.mul_le_mul_left B (by omega)
        omega
      · rw [if_neg hb]
        exact ih m (by omega) (r + top) hs2 (by omega) (by omega) (by have := h.b2; omega)
    · rw [dif_neg hc]
      refine ⟨h1, ?_⟩
      by_cases h0 : q = 0
      · omega
      · have hc2 : ¬ (B - 1 < q ∨ r * B + low < q * next) := fun e => hc ⟨h0, e⟩
        exact near _ (by omega) h2
/-- The first guess is not too small. -/
theorem GsH.first (h : GsH B top next low s U V P U2 V2) (ht : 0 < top) : U / V ≤ s / top := by
  refine Classical.byContradiction fun hc => ?_
  have hP : 0 < P := Nat.pos_of_ne_zero fun e => by
    have := h.v2
    rw [e, Nat.mul_zero] at this
    omega
  have hV : 0 < V := Nat.lt_of_lt_of_le (Nat.mul_pos (by have := h.big; omega) hP) h.v1
  have h1 : V * (U / V) ≤ U := Nat.mul_div_le U V
  have h2 : V * (s / top + 1) ≤ U := Nat.le_trans (Nat.mul_le_mul_left V (by omega)) h1
  have h3 : V2 * P * (s / top + 1) ≤ V * (s / top + 1) := Nat.mul_le_mul_right _ h.v1
  have h4 : V2 * (s / top + 1) * P < (U2 + 1) * P := by
    rw [Nat.mul_right_comm]
    have := h.u2
    omega
  have h5 : V2 * (s / top + 1) < U2 + 1 := Nat.lt_of_mul_lt_mul_right h4
  have h6 : s < top * (s / top + 1) := Nat.lt_mul_div_succ s ht
  have h7 : (s + 1) * B ≤ top * (s / top + 1) * B := Nat.mul_le_mul_right B h6
  rw [h.hV, h.hU, Nat.add_mul, Nat.mul_right_comm top B] at h5
  rw [Nat.add_mul, Nat.one_mul] at h7
  have := h.lo
  omega
end Go.Bn

set_option linter.unusedSimpArgs false
set_option linter.unusedVariables false
namespace Go.Bn
variable {B : Nat}
/-- After i digits of v: what was taken off, the carry of the product, the borrow. -/
structure TkI (B q : Nat) (u v : List Nat) (i : Nat) (out : List Nat) (c b : Nat) : Prop where
  len : out.length = u.length
  dg : Dg B out
  v : val B out + q * val B (v.take i) = val B u + B ^ i * (c + b)
  c1 : c < B
  b1 : b ≤ 1
  hi : ∀ j, i ≤ j → out[j]? = u[j]?
theorem TkI.zero {q : Nat} {u v : List Nat} (hB : 2 ≤ B) (h : Dg B u) : TkI B q u v 0 u 0 0 := ⟨rfl, h, by rw [List.take_zero]; show _ + q * 0 = _; rw [Nat.mul_zero]; show _ = _ + _ * 0; rw [Nat.mul_zero], by omega, Nat.zero_le _, fun _ _ => rfl⟩
theorem TkI.step {q i c b o y d e : Nat} {u v out : List Nat} (hB : 2 ≤ B) (hq : q ≤ B) (hv : Dg B v) (h : TkI B q u v i out c b) (ho : out[i]? = some o) (hy : v[i]? = some y) (hd : d < B) (he : e ≤ 1) (hs : d + (q * y + c) % B + b = o + B * e) : TkI B q u v (i + 1) (out.set i d) ((q * y + c) / B) e := by
  have h1 := hv.at hy
  have h3 := h.c1
  have h4 := h.v
  refine ⟨by rw [List.length_set, h.len], h.dg.set hd _, ?_, ?_, he, fun j hj => ?_⟩
  · have h5 := val_set (B := B) (x := d) ho
    rw [val_take hy, Nat.mul_add]
    have h6 : q * (B ^ i * y) = B ^ i * (q * y) := Nat.mul_left_comm q (B ^ i) y
    have h7 : B ^ (i + 1) * ((q * y + c) / B + e) + B ^ i * o = B ^ i * (q * y) + B ^ i * c + B ^ i * d + B ^ i * b := by
      rw [Nat.pow_succ, Nat.mul_assoc, ← Nat.mul_add, ← Nat.mul_add, ← Nat.mul_add, ← Nat.mul_add]
      congr 1
      have := Nat.mod_add_div (q * y + c) B
      rw [Nat.mul_add]
      omega
    have h8 : B ^ i * (c + b) = B ^ i * c + B ^ i * b := Nat.mul_add ..
    omega
  · refine Nat.div_lt_of_lt_mul ?_
    have h5 : q * y ≤ B * (B - 1) := Nat.mul_le_mul hq (by omega)
    have h6 : B * (B - 1) + B = B * B := by
      obtain ⟨m, rfl⟩ : ∃ m, B = m + 1 := ⟨B - 1, by omega⟩
      rw [Nat.add_sub_cancel, Nat.mul_add (m + 1) m 1, Nat.mul_one]
    omega
  · rw [List.getElem?_set_ne (by omega)]
    exact h.hi j (by omega)
/-- The highest digit: whether it was too much. -/
theorem TkI.last {q n c b o d e : Nat} {u v out : List Nat} (h : TkI B q u v n out c b) (hn : v.length = n) (ho : out[n]? = some o) (hs : d + c + b = o + B * e) : val B (out.set n d) + q * val B v = val B u + B ^ (n + 1) * e := by
  have h5 := val_set (B := B) (x := d) ho
  have h4 := h.v
  rw [val_take_all (by omega)] at h4
  have h7 : B ^ n * d + B ^ n * (c + b) = B ^ n * o + B ^ (n + 1) * e := by
    rw [Nat.pow_succ, Nat.mul_assoc, ← Nat.mul_add, ← Nat.mul_add]
    congr 1
    omega
  omega
/-- The divisor added back. -/
structure BkI (B : Nat) (u v : List Nat) (i : Nat) (out : List Nat) (c : Nat) : Prop where
  len : out.length = u.length
  dg : Dg B out
  v : val B out + B ^ i * c = val B u + val B (v.take i)
  c1 : c ≤ 1
  hi : ∀ j, i ≤ j → out[j]? = u[j]?
theorem BkI.zero {u v : List Nat} (h : Dg B u) : BkI B u v 0 u 0 := ⟨rfl, h, by rw [List.take_zero, Nat.mul_zero]; rfl, Nat.zero_le _, fun _ _ => rfl⟩
theorem BkI.step {i c o y : Nat} {u v out : List Nat} (hB : 2 ≤ B) (hv : Dg B v) (h : BkI B u v i out c) (ho : out[i]? = some o) (hy : v[i]? = some y) : BkI B u v (i + 1) (out.set i ((o + y + c) % B)) ((o + y + c) / B) := by
  have h1 := hv.at hy
  have h2 := h.dg.at ho
  have h3 := h.c1
  have h4 := h.v
  refine ⟨by rw [List.length_set, h.len], h.dg.set (Nat.mod_lt _ (by omega)) _, ?_, ?_, fun j hj => ?_⟩
  · have h5 := val_set (B := B) (x := (o + y + c) % B) ho
    have h6 := pow_split B i (o + y + c)
    rw [val_take hy]
    have h7 : B ^ i * (o + y + c) = B ^ i * o + B ^ i * y + B ^ i * c := by rw [Nat.mul_add, Nat.mul_add]
    omega
  · have : (o + y + c) / B < 2 := Nat.div_lt_of_lt_mul (by omega)
    omega
  · rw [List.getElem?_set_ne (by omega)]
    exact h.hi j (by omega)
theorem BkI.last {n c o : Nat} {u v out : List Nat} (h : BkI B u v n out c) (hn : v.length = n) (ho : out[n]? = some o) : val B (out.set n ((o + c) % B)) + B ^ (n + 1) * ((o + c) / B) = val B u + val B v := by
  have h5 := val_set (B := B) (x := (o + c) % B) ho
  have h6 := pow_split B n (o + c)
  have h4 := h.v
  rw [val_take_all (by omega)] at h4
  have h7 : B ^ n * (o + c) = B ^ n * o + B ^ n * c := Nat.mul_add ..
  omega
/-- One digit of the quotient: what the window holds behind it. -/
theorem window {U V q L t w e : Nat} (hq1 : U / V ≤ q) (hq2 : q ≤ U / V + 1) (hV : 0 < V) (hVL : V ≤ L) (ht : t + q * V = U + L * e) (htL : t < L) (he : e ≤ 1) : (e = 0 → q = U / V ∧ t = U % V) ∧ (e = 1 → q = U / V + 1 ∧ ∀ c, w + L * c = t + V → w < L → w = U % V) := by
  have h1 := Nat.mod_add_div U V
  have h2 := Nat.mod_lt U hV
  rw [Nat.mul_comm V] at h1
  generalize U / V = k at *
  generalize U % V = r at *
  rcases Nat.lt_or_ge k q with hlt | hge
  · obtain rfl : q = k + 1 := by omega
    rw [Nat.add_mul, Nat.one_mul] at ht
    refine ⟨fun h => ?_, fun h => ⟨rfl, fun c hw hwL => ?_⟩⟩
    · subst h; rw [Nat.mul_zero] at ht; omega
    · subst h
      rw [Nat.mul_one] at ht
      have hw2 : w + L * c = r + L := by omega
      have hc : c = 1 := by
        rcases Nat.lt_or_ge c 1 with h | h
        · have : c = 0 := by omega
          subst this; rw [Nat.mul_zero] at hw2; omega
        · rcases Nat.lt_or_ge 1 c with h3 | h3
          · have : L * 2 ≤ L * c := Nat.mul_le_mul_left L h3
            omega
          · omega
      subst hc
      rw [Nat.mul_one] at hw2
      omega
  · obtain rfl : q = k := by omega
    refine ⟨fun h => ?_, fun h => ?_⟩
    · subst h; rw [Nat.mul_zero] at ht; exact ⟨rfl, by omega⟩
    · subst h; rw [Nat.mul_one] at ht; omega
end Go.Bn

set_option linter.unusedSimpArgs false
set_option linter.unusedVariables false
namespace Go.Bn
variable {B : Nat}
theorem val_cut (l : List Nat) (i : Nat) (hi : i ≤ l.length) : val B l = val B (l.take i) + B ^ i * val B (l.drop i) := by
  conv => lhs; rw [← List.take_append_drop i l]
  rw [val_append, List.length_take, Nat.min_eq_left hi]
theorem drop_cons {l : List Nat} {i x : Nat} (h : l[i]? = some x) : l.drop i = x :: l.drop (i + 1) := by
  obtain ⟨hi, he⟩ := List.getElem?_eq_some_iff.1 h
  rw [List.drop_eq_getElem_cons hi, he]
/-- What is done of a long division by V: the digits of the quotient from place k on, and what is left. -/
structure DvI (B V : Nat) (u0 : List Nat) (k : Nat) (q u : List Nat) : Prop where
  len : u.length = u0.length
  dgu : Dg B u
  dgq : Dg B q
  v : val B q * V + val B (u.drop k) = val B (u0.drop k)
  lt : val B (u.drop k) < V
  lo : u.take k = u0.take k
theorem DvI.start {V : Nat} {u0 : List Nat} {m : Nat} (h : Dg B u0) (hlt : val B (u0.drop m) < V) : DvI B V u0 m [] u0 := ⟨rfl, h, (fun d hd => by cases hd), by show 0 * V + _ = _; omega, hlt, rfl⟩
theorem DvI.win {V : Nat} {u0 q u : List Nat} {k x : Nat} (h : DvI B V u0 (k + 1) q u) (hx : u[k]? = some x) : val B (u.drop k) = x + B * val B (u.drop (k + 1)) ∧ val B (u.drop k) < V * B := by
  have h1 : val B (u.drop k) = x + B * val B (u.drop (k + 1)) := by rw [drop_cons hx]; rfl
  refine ⟨h1, ?_⟩
  rw [h1]
  have h2 := h.lt
  have h3 := h.dgu.at hx
  have h4 : B * (val B (u.drop (k + 1)) + 1) ≤ B * V := Nat.mul_le_mul_left B h2
  rw [Nat.mul_add, Nat.mul_one, Nat.mul_comm B V] at h4
  omega
theorem DvI.step {V : Nat} {u0 q u u' : List Nat} {k x : Nat} (hB : 2 ≤ B) (h : DvI B V u0 (k + 1) q u) (hx : u[k]? = some x) (hl : u'.length = u.length) (hd : Dg B u') (hlo : u'.take k = u.take k) (hv : val B (u'.drop k) = val B (u.drop k) % V) : DvI B V u0 k (val B (u.drop k) / V :: q) u' := by
  obtain ⟨h1, h2⟩ := h.win hx
  have hV : 0 < V := Nat.pos_of_ne_zero fun e => by rw [e, Nat.zero_mul] at h2; omega
  have hk : k < u.length := (List.getElem?_eq_some_iff.1 hx).1
  have hlo2 : u.take k = u0.take k := by
    have := congrArg (List.take k) h.lo
    rwa [List.take_take, List.take_take, Nat.min_eq_left (by omega)] at this
  have hx0 : u0[k]? = some x := by
    have e1 : (u.take (k + 1))[k]? = some x := by rw [List.getElem?_take_of_lt (by omega)]; exact hx
    rw [h.lo, List.getElem?_take_of_lt (by omega)] at e1
    exact e1
  refine ⟨by rw [hl, h.len], hd, fun d hd => ?_, ?_, by rw [hv]; exact Nat.mod_lt _ hV, hlo.trans hlo2⟩
  · rcases List.mem_cons.1 hd with rfl | hd
    · exact Nat.div_lt_of_lt_mul h2
    · exact h.dgq d hd
  · rw [hv]
    show (val B (u.drop k) / V + B * val B q) * V + val B (u.drop k) % V = val B (u0.drop k)
    have h3 := Nat.mod_add_div (val B (u.drop k)) V
    rw [Nat.mul_comm V] at h3
    have h4 : val B (u0.drop k) = x + B * val B (u0.drop (k + 1)) := by rw [drop_cons hx0]; rfl
    rw [h4, ← h.v, Nat.add_mul, Nat.mul_add, Nat.mul_assoc]
    omega
theorem DvI.done {V : Nat} {u0 q u : List Nat} (h : DvI B V u0 0 q u) : val B q = val B u0 / V ∧ val B u = val B u0 % V := by
  have h1 := h.v
  have h2 := h.lt
  rw [List.drop_zero, List.drop_zero] at h1
  rw [List.drop_zero] at h2
  have hV : 0 < V := by omega
  refine ⟨?_, ?_⟩
  · rw [← h1, Nat.mul_comm, Nat.mul_add_div hV, Nat.div_eq_of_lt h2]; rfl
  · rw [← h1, Nat.mul_comm, Nat.mul_add_mod, Nat.mod_eq_of_lt h2]
/-- The guess's hypotheses, read off the digits. -/
theorem gsh_of {w v : List Nat} {n high mid low top next : Nat} (hB : 4 ≤ B) (hw : Dg B w) (hv : Dg B v) (hn : 2 ≤ n) (hvl : v.length = n)
    (w2 : w[n]? = some high) (w1 : w[n - 1]? = some mid) (w0 : w[n - 2]? = some low) (wz : val B (w.drop (n + 1)) = 0) (v1 : v[n - 1]? = some top) (v0 : v[n - 2]? = some next) (htop : B ≤ 2 * top) (huv : val B w < val B v * B) :
    GsH B top next low (high * B + mid) (val B w) (val B v) (B ^ (n - 2)) ((high * B + mid) * B + low) (top * B + next) := by
  have hwl := (List.getElem?_eq_some_iff.1 w2).1
  have e1 : val B (w.drop (n - 2)) = (high * B + mid) * B + low := by
    rw [drop_cons w0, show n - 2 + 1 = n - 1 by omega, drop_cons w1, show n - 1 + 1 = n by omega, drop_cons w2]
    show low + B * (mid + B * (high + B * val B (w.drop (n + 1)))) = _
    rw [wz, Nat.mul_zero, Nat.add_zero, Nat.mul_comm B high, Nat.mul_comm B (mid + _), Nat.add_comm mid]
    omega
  have e2 : val B (v.drop (n - 2)) = top * B + next := by
    rw [drop_cons v0, show n - 2 + 1 = n - 1 by omega, drop_cons v1, show n - 1 + 1 = n by omega, List.drop_eq_nil_of_le (by omega)]
    show next + B * (top + B * 0) = _
    rw [Nat.mul_zero, Nat.add_zero, Nat.mul_comm B top]
    omega
  have c1 := val_cut (B := B) w (n - 2) (by omega)
  have c2 := val_cut (B := B) v (n - 2) (by omega)
  rw [e1] at c1
  rw [e2] at c2
  have l1 := val_lt (hw.take (n - 2))
  have l2 := val_lt (hv.take (n - 2))
  rw [List.length_take, Nat.min_eq_left (by omega)] at l1 l2
  have t2 : 2 ≤ top := by omega
  have tb : 2 * B ≤ top * B := Nat.mul_le_mul_right B t2
  refine ⟨rfl, rfl, ?_, ?_, ?_, ?_, by omega, hv.at v0, hw.at w0, huv, by omega⟩
  · rw [c2, Nat.mul_comm]; omega
  · rw [c2, Nat.add_mul, Nat.one_mul, Nat.mul_comm (B ^ (n - 2))]; omega
  · rw [c1, Nat.mul_comm (B ^ (n - 2))]; omega
  · rw [c1, Nat.add_mul _ 1, Nat.one_mul, Nat.mul_comm (B ^ (n - 2))]; omega
end Go.Bn

set_option linter.unusedSimpArgs false
set_option linter.unusedVariables false
namespace Go.Bn
variable {B : Nat}
/-- How many binary digits a number has. -/
def blen (n : Nat) : Nat := if h : n = 0 then 0 else blen (n / 2) + 1
termination_by n
decreasing_by omega
theorem blen_zero : blen 0 = 0 := by rw [blen, dif_pos rfl]
theorem blen_pos {n : Nat} (h : n ≠ 0) : blen n = blen (n / 2) + 1 := by rw [blen, dif_neg h]
theorem blen_ne {n : Nat} (h : n ≠ 0) : 0 < blen n := by rw [blen_pos h]; omega
theorem blen_up (n : Nat) : n < 2 ^ blen n := by
  induction n using Nat.strongRecOn with
  | _ n ih =>
    by_cases h : n = 0
    · subst h; rw [blen_zero]; decide
    · rw [blen_pos h, Nat.pow_succ]
      have := ih (n / 2) (by omega)
      omega
theorem blen_low {n : Nat} (h : n ≠ 0) : 2 ^ (blen n - 1) ≤ n := by
  induction n using Nat.strongRecOn with
  | _ n ih =>
    rw [blen_pos h, Nat.add_sub_cancel]
    by_cases h2 : n / 2 = 0
    · rw [h2, blen_zero, Nat.pow_zero]; omega
    · have h3 := ih (n / 2) (by omega) h2
      have h4 := blen_ne h2
      have e : blen (n / 2) = blen (n / 2) - 1 + 1 := by omega
      rw [e, Nat.pow_succ]
      omega
theorem blen_of {n k : Nat} (h1 : 2 ^ k ≤ n) (h2 : n < 2 ^ (k + 1)) : blen n = k + 1 := by
  have hn : n ≠ 0 := by have := Nat.pow_pos (n := k) (show 0 < 2 by decide); omega
  have h3 := blen_up n
  have h4 := blen_low hn
  have h5 : k < blen n := (Nat.pow_lt_pow_iff_right (a := 2) (by decide)).1 (Nat.lt_of_le_of_lt h1 h3)
  have h6 : blen n - 1 < k + 1 := (Nat.pow_lt_pow_iff_right (a := 2) (by decide)).1 (Nat.lt_of_le_of_lt h4 h2)
  omega
theorem blen_le {n k : Nat} (h : n < 2 ^ k) : blen n ≤ k := by
  by_cases hn : n = 0
  · subst hn; rw [blen_zero]; exact Nat.zero_le _
  · have h4 := blen_low hn
    have := (Nat.pow_lt_pow_iff_right (a := 2) (by decide)).1 (Nat.lt_of_le_of_lt h4 h)
    omega
theorem blen_ge {n k : Nat} (h : 2 ^ k ≤ n) : k < blen n := (Nat.pow_lt_pow_iff_right (a := 2) (by decide)).1 (Nat.lt_of_le_of_lt h (blen_up n))
/-- The bits of words: those of the highest word, and all of the others. -/
theorem blen_words {w : Nat} {l : List Nat} {t : Nat} (hl : Dg (2 ^ w) l) (ht : l[l.length - 1]? = some t) (h0 : t ≠ 0) : blen (val (2 ^ w) l) = (l.length - 1) * w + blen t := by
  have hlen : 0 < l.length := Nat.lt_of_le_of_lt (Nat.zero_le _) (List.getElem?_eq_some_iff.1 ht).1
  have h1 := val_take (B := 2 ^ w) ht
  rw [show l.length - 1 + 1 = l.length by omega, List.take_length] at h1
  have h2 := val_lt (hl.take (l.length - 1))
  rw [List.length_take, Nat.min_eq_left (by omega), ← Nat.pow_mul, Nat.mul_comm w] at h2
  rw [← Nat.pow_mul, Nat.mul_comm w] at h1
  have h3 := blen_up t
  have h4 := blen_low h0
  have h5 := blen_ne h0
  obtain ⟨b, hb⟩ : ∃ b, blen t = b + 1 := ⟨blen t - 1, by omega⟩
  rw [hb, Nat.add_sub_cancel] at h4
  rw [hb] at h3
  generalize (l.length - 1) * w = K at *
  rw [hb, show K + (b + 1) = K + b + 1 by omega]
  refine blen_of ?_ ?_
  · rw [h1, Nat.pow_add]
    exact Nat.le_trans (Nat.mul_le_mul_left _ h4) (by omega)
  · rw [h1, show K + b + 1 = K + (b + 1) by omega, Nat.pow_add]
    have : 2 ^ K * t + 2 ^ K ≤ 2 ^ K * 2 ^ (b + 1) := by
      have := Nat.mul_le_mul_left (2 ^ K) (show t + 1 ≤ 2 ^ (b + 1) from h3)
      rwa [Nat.mul_add, Nat.mul_one] at this
    omega
/-- A bit of words. -/
theorem bit_words {w : Nat} (hw : 0 < w) : ∀ {l : List Nat}, Dg (2 ^ w) l → ∀ k : Nat, (val (2 ^ w) l).testBit k = (atD l (k / w)).testBit (k % w)
  | [], _, k => by rw [atD_out (Nat.zero_le _)]; show (0 : Nat).testBit k = _; rw [Nat.zero_testBit, Nat.zero_testBit]
  | d :: r, h, k => by
    have hd := h d (List.mem_cons_self ..)
    show (d + 2 ^ w * val (2 ^ w) r).testBit k = _
    rw [Nat.add_comm, Nat.testBit_two_pow_mul_add _ hd]
    by_cases hk : k < w
    · rw [if_pos hk, Nat.div_eq_of_lt hk, Nat.mod_eq_of_lt hk]; rfl
    · rw [if_neg hk, bit_words hw h.tail]
      have e1 : k / w = (k - w) / w + 1 := by
        have := Nat.add_div_right (k - w) hw
        rwa [Nat.sub_add_cancel (by omega)] at this
      have e2 : k % w = (k - w) % w := by
        have := Nat.add_mod_right (k - w) w
        rw [Nat.sub_add_cancel (by omega)] at this
        exact this.symm ▸ rfl
      rw [e1, e2]; rfl
end Go.Bn

set_option linter.unusedSimpArgs false
set_option linter.unusedVariables false
namespace Go.Bn
open Go
/-- The last k digits, with the idle zeros. -/
def padK : Nat → Nat → List UInt8
  | 0, _ => []
  | k + 1, r => padK k (r / 10) ++ [UInt8.ofNat (48 + r % 10)]
theorem pad_zero : ∀ k, padK k 0 = List.replicate k 48
  | 0 => rfl
  | k + 1 => by
    show padK k (0 / 10) ++ [UInt8.ofNat (48 + 0 % 10)] = _
    rw [Nat.zero_div, pad_zero k, List.replicate_succ']; rfl
theorem dec_big {n : Nat} (h : ¬ n < 10) : Lib.decDigits n = Lib.decDigits (n / 10) ++ [UInt8.ofNat (48 + n % 10)] := by rw [Lib.decDigits, dif_neg h]
theorem dec_small {n : Nat} (h : n < 10) : Lib.decDigits n = [UInt8.ofNat (48 + n)] := by rw [Lib.decDigits, dif_pos h]
theorem pad_dec : ∀ (k r : Nat), r < 10 ^ (k + 1) → padK (k + 1) r = List.replicate (k + 1 - (Lib.decDigits r).length) 48 ++ Lib.decDigits r
  | 0, r, h => by
    have h : r < 10 := h
    rw [dec_small h]
    show [] ++ [UInt8.ofNat (48 + r % 10)] = _
    rw [Nat.mod_eq_of_lt h]; rfl
  | k + 1, r, h => by
    show padK (k + 1) (r / 10) ++ [UInt8.ofNat (48 + r % 10)] = _
    by_cases h10 : r < 10
    · rw [dec_small h10, Nat.div_eq_of_lt h10, pad_zero, Nat.mod_eq_of_lt h10]; rfl
    · rw [dec_big h10, pad_dec k (r / 10) (Nat.div_lt_of_lt_mul (by rw [Nat.pow_succ, Nat.mul_comm] at h; exact h)), List.length_append, List.length_singleton, List.append_assoc]
      congr 2
      omega
/-- A number is its front and its last k digits. -/
theorem dec_split : ∀ (k q r : Nat), 0 < q → r < 10 ^ k → Lib.decDigits (q * 10 ^ k + r) = Lib.decDigits q ++ padK k r
  | 0, q, r, hq, hr => by
    have : r = 0 := by rw [Nat.pow_zero] at hr; omega
    subst this
    rw [Nat.pow_zero, Nat.mul_one, Nat.add_zero]
    show _ = _ ++ []
    rw [List.append_nil]
  | k + 1, q, r, hq, hr => by
    have hp : 1 ≤ 10 ^ k := Nat.pow_pos (by decide)
    have e : q * 10 ^ (k + 1) = 10 * (q * 10 ^ k) := by rw [Nat.pow_succ]; rw [← Nat.mul_assoc, Nat.mul_comm]
    have hqk : 1 ≤ q * 10 ^ k := Nat.mul_pos hq hp
    rw [dec_big (by omega), e, show (10 * (q * 10 ^ k) + r) / 10 = q * 10 ^ k + r / 10 by omega, show (10 * (q * 10 ^ k) + r) % 10 = r % 10 by omega,
      dec_split k q (r / 10) hq (Nat.div_lt_of_lt_mul (by rw [Nat.pow_succ, Nat.mul_comm] at hr; exact hr)), List.append_assoc]
    rfl
/-- The groups of a number, the lowest first. -/
def grpN (n : Nat) : List (List UInt8) :=
  if h : n = 0 then [] else (if n / 1000000000 = 0 then Lib.decDigits (n % 1000000000) else List.replicate (9 - (Lib.decDigits (n % 1000000000)).length) 48 ++ Lib.decDigits (n % 1000000000)) :: grpN (n / 1000000000)
termination_by n
decreasing_by omega
theorem grp_text : ∀ n : Nat, n ≠ 0 → (grpN n).reverse.flatten = Lib.decDigits n := by
  intro n
  induction n using Nat.strongRecOn with
  | _ n ih =>
    intro hn
    rw [grpN, dif_neg hn, List.reverse_cons, List.flatten_append]
    by_cases h : n / 1000000000 = 0
    · have hlt : n < 1000000000 := by omega
      rw [if_pos h, h, grpN, dif_pos rfl, Nat.mod_eq_of_lt hlt]
      simp
    · rw [if_neg h, ih (n / 1000000000) (by omega) h]
      have h1 := pad_dec 8 (n % 1000000000) (Nat.mod_lt _ (by decide))
      have h2 := dec_split 9 (n / 1000000000) (n % 1000000000) (by omega) (Nat.mod_lt _ (by decide))
      have e9 : n / 1000000000 * 10 ^ 9 + n % 1000000000 = n := by
        have h9 : (10 : Nat) ^ 9 = 1000000000 := rfl
        rw [h9]
        omega
      rw [e9] at h2
      rw [h2, h1, List.flatten_cons, List.flatten_nil, List.append_nil]
end Go.Bn

set_option linter.unusedSimpArgs false
set_option linter.unusedVariables false
namespace Go.Bn
open Go
theorem pad_len : ∀ k r, (padK k r).length = k
  | 0, _ => rfl
  | k + 1, r => by
    show (padK k (r / 10) ++ [_]).length = _
    rw [List.length_append, pad_len k, List.length_singleton]
theorem dec_len9 {r : Nat} (h : r < 1000000000) : (Lib.decDigits r).length ≤ 9 := by
  have h1 := congrArg List.length (pad_dec 8 r h)
  rw [pad_len, List.length_append, List.length_replicate] at h1
  omega
theorem grp_el : ∀ n : Nat, ∀ g ∈ grpN n, g.length ≤ 9 := by
  intro n
  induction n using Nat.strongRecOn with
  | _ n ih =>
    intro g hg
    rw [grpN] at hg
    by_cases h : n = 0
    · rw [dif_pos h] at hg; cases hg
    · rw [dif_neg h] at hg
      have hl := dec_len9 (r := n % 1000000000) (Nat.mod_lt _ (by decide))
      rcases List.mem_cons.1 hg with rfl | hg
      · split
        · exact hl
        · rw [List.length_append, List.length_replicate]; omega
      · exact ih (n / 1000000000) (by omega) g hg
theorem grp_len : ∀ (k n : Nat), n < 1000000000 ^ k → (grpN n).length ≤ k
  | 0, n, h => by
    have : n = 0 := by rw [Nat.pow_zero] at h; omega
    subst this
    rw [grpN, dif_pos rfl]; exact Nat.le_refl _
  | k + 1, n, h => by
    rw [grpN]
    by_cases h0 : n = 0
    · rw [dif_pos h0]; exact Nat.zero_le _
    · rw [dif_neg h0, List.length_cons]
      have := grp_len k (n / 1000000000) (Nat.div_lt_of_lt_mul (by rw [Nat.pow_succ, Nat.mul_comm] at h; exact h))
      omega
theorem flat_len {l : List (List UInt8)} (h : ∀ g ∈ l, g.length ≤ 9) : l.flatten.length ≤ 9 * l.length := by
  induction l with
  | nil => exact Nat.le_refl _
  | cons x r ih =>
    have h1 := h x (List.mem_cons_self ..)
    have h2 := ih fun g hg => h g (List.mem_cons_of_mem _ hg)
    rw [List.flatten_cons, List.length_append, List.length_cons]
    omega
/-- How many groups a number of L words has. -/
theorem grp_words {n L : Nat} (h : n < 4294967296 ^ L) : (grpN n).length ≤ 2 * L := by
  refine grp_len _ _ (Nat.lt_of_lt_of_le h ?_)
  rw [Nat.pow_mul]
  exact Nat.pow_le_pow_left (by decide) L
theorem join_nil' (l : List (List UInt8)) : Lib.join l [] = l.flatten := by
  unfold Lib.join
  induction l with
  | nil => rfl
  | cons x r ih =>
    cases r with
    | nil => simp [List.intercalate]
    | cons y r =>
      simp only [List.intercalate, List.intersperse] at ih ⊢
      simp [ih]
theorem rep_one : ∀ c : Nat, Lib.repeatL [48] c = List.replicate c 48
  | 0 => rfl
  | c + 1 => by rw [List.replicate_succ, ← rep_one c]; rfl
end Go.Bn
