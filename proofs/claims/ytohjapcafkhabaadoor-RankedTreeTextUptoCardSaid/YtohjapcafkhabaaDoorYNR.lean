/- Decimal numerals. No condition. -/
import Derived.Test.YtohjapcafkhabaaDoorYTE
import Derived.Lib.Atoi
import Derived.Lib.ItoaNum

set_option linter.unusedSimpArgs false
set_option linter.unusedVariables false
namespace Go.Rt
open Go
/-! numerals -/
def isDg (b : UInt8) : Bool := decide (48 ≤ b.toNat) && decide (b.toNat ≤ 57)
def stepV (a : Nat) (b : UInt8) : Nat := 10 * a + (b.toNat - 48)
def valN (d : List UInt8) : Nat := d.foldl stepV 0
/-- A numeral as it is written: digits, at least one, none of them idle. -/
def Canon (d : List UInt8) : Prop := d ≠ [] ∧ (∀ b ∈ d, isDg b = true) ∧ ¬ (1 < d.length ∧ d.head? = some 48)
theorem valN_snoc (d : List UInt8) (b : UInt8) : valN (d ++ [b]) = 10 * valN d + (b.toNat - 48) := by
  unfold valN
  rw [List.foldl_append]; rfl
theorem bsnoc {P : List UInt8 → Prop} (h0 : P []) (h1 : ∀ l x, P l → P (l ++ [x])) : ∀ l, P l := by
  intro l
  rw [← List.reverse_reverse l]
  induction l.reverse with
  | nil => exact h0
  | cons x xs ih => rw [List.reverse_cons]; exact h1 _ _ ih
theorem dg_range {b : UInt8} (h : isDg b = true) : 48 ≤ b.toNat ∧ b.toNat ≤ 57 := by
  unfold isDg at h
  simpa using h
theorem u8_ext {a b : UInt8} (h : a.toNat = b.toNat) : a = b := UInt8.toNat_inj.1 h
theorem valN_low : ∀ d : List UInt8, (∀ b ∈ d, isDg b = true) → d ≠ [] → d.head? ≠ some 48 → 10 ^ (d.length - 1) ≤ valN d := by
  refine bsnoc (fun _ h => absurd rfl h) ?_
  intro d b ih hd _ hh
  rw [valN_snoc, List.length_append, List.length_singleton, Nat.add_sub_cancel]
  cases d with
  | nil =>
    have hb := dg_range (hd b (by simp))
    have hne : b.toNat ≠ 48 := fun e => hh (by rw [List.nil_append]; show some b = some 48; rw [u8_ext (a := b) (b := 48) e])
    simp only [List.length_nil, Nat.pow_zero]
    omega
  | cons x xs =>
    have h := ih (fun b hb => hd b (List.mem_append_left _ hb)) (by simp) (by simpa using hh)
    rw [List.length_cons, Nat.add_sub_cancel] at h
    rw [List.length_cons, Nat.pow_succ]
    omega
theorem valN_pos {d : List UInt8} (h1 : ∀ b ∈ d, isDg b = true) (h2 : d ≠ []) (h3 : d.head? ≠ some 48) : 1 ≤ valN d :=
  Nat.le_trans (Nat.pow_pos (by decide)) (valN_low d h1 h2 h3)
theorem Canon.dig : ∀ d : List UInt8, Canon d → Lib.decDigits (valN d) = d := by
  refine bsnoc (fun h => absurd rfl h.1) ?_
  intro d b ih h
  obtain ⟨_, hd, hh⟩ := h
  have hb := dg_range (hd b (by simp))
  rw [valN_snoc]
  cases d with
  | nil =>
    have e : 10 * valN [] + (b.toNat - 48) = b.toNat - 48 := by show 10 * 0 + _ = _; omega
    rw [e, Lib.decDigits, dif_pos (by omega), List.nil_append]
    congr 1
    exact u8_ext (by rw [UInt8.toNat_ofNat']; omega)
  | cons x xs =>
    have hx : (x :: xs).head? ≠ some 48 := fun e => hh ⟨by simp, by simpa using e⟩
    have hc : Canon (x :: xs) := ⟨by simp, fun b hb => hd b (List.mem_append_left _ hb), fun e => hx e.2⟩
    have hp := valN_pos hc.2.1 hc.1 hx
    rw [Lib.decDigits, dif_neg (by omega), show (10 * valN (x :: xs) + (b.toNat - 48)) / 10 = valN (x :: xs) by omega, ih hc]
    congr 2
    exact u8_ext (by rw [UInt8.toNat_ofNat']; omega)
theorem isDg_of {n : Nat} (h : n < 10) : isDg (UInt8.ofNat (48 + n)) = true := by
  unfold isDg
  rw [UInt8.toNat_ofNat', Nat.mod_eq_of_lt (by omega), decide_eq_true (by omega), decide_eq_true (by omega)]; rfl
theorem dig_ok : ∀ u : Nat, Canon (Lib.decDigits u) ∧ valN (Lib.decDigits u) = u ∧ (1 ≤ u → (Lib.decDigits u).head? ≠ some 48) := by
  intro u
  induction u using Nat.strongRecOn with
  | _ u ih =>
    by_cases h : u < 10
    · rw [Lib.decDigits, dif_pos h]
      refine ⟨⟨by simp, ?_, by simp⟩, ?_, ?_⟩
      · intro b hb
        rw [List.mem_singleton] at hb; subst hb; exact isDg_of h
      · show 10 * 0 + ((UInt8.ofNat (48 + u)).toNat - 48) = u
        rw [UInt8.toNat_ofNat', Nat.mod_eq_of_lt (by omega)]; omega
      · intro hu e
        have e : (some (UInt8.ofNat (48 + u))).map (·.toNat) = some (48 : UInt8).toNat := congrArg (Option.map (·.toNat)) e
        rw [Option.map_some, UInt8.toNat_ofNat', Nat.mod_eq_of_lt (by omega)] at e
        injection e with e
        have e : 48 + u = 48 := e
        omega
    · obtain ⟨⟨h1, h2, h3⟩, h4, h5⟩ := ih (u / 10) (by omega)
      rw [Lib.decDigits, dif_neg h]
      have hh : (Lib.decDigits (u / 10) ++ [UInt8.ofNat (48 + u % 10)]).head? = (Lib.decDigits (u / 10)).head? := by
        cases hc : Lib.decDigits (u / 10) with
        | nil => exact absurd hc h1
        | cons x xs => rfl
      refine ⟨⟨by simp, ?_, ?_⟩, ?_, ?_⟩
      · intro b hb
        rcases List.mem_append.1 hb with hb | hb
        · exact h2 b hb
        · rw [List.mem_singleton] at hb; subst hb; exact isDg_of (by omega)
      · rintro ⟨_, e⟩
        rw [hh] at e
        exact h5 (by omega) e
      · rw [valN_snoc, h4, UInt8.toNat_ofNat', Nat.mod_eq_of_lt (by omega)]; omega
      · intro _ e
        rw [hh] at e
        exact h5 (by omega) e
theorem valN_dec (d : List UInt8) : (∀ b ∈ d, isDg b = true) → ∀ a : Nat, Lib.decFrom a d = some (d.foldl stepV a) := by
  induction d with
  | nil => intro _ a; rfl
  | cons b r ih =>
    intro h a
    have hb := dg_range (h b (List.mem_cons_self ..))
    rw [Lib.decFrom, Lib.digitVal, if_pos hb, List.foldl_cons]
    show Lib.decFrom (a * 10 + (b.toNat - 48)) r = _
    rw [ih (fun x hx => h x (List.mem_cons_of_mem _ hx))]
    unfold stepV
    rw [Nat.mul_comm a 10]
theorem atoi_canon {d : List UInt8} (h0 : d ≠ []) (h : ∀ b ∈ d, isDg b = true) : Lib.atoi d = some ((valN d : Nat) : Int) := by
  cases d with
  | nil => exact absurd rfl h0
  | cons b r =>
    have hb := dg_range (h b (List.mem_cons_self ..))
    have e1 : (b == 45) = false := by
      rw [beq_eq_false_iff_ne]; intro e; subst e; exact absurd hb.1 (by decide)
    have e2 : (b == 43) = false := by
      rw [beq_eq_false_iff_ne]; intro e; subst e; exact absurd hb.1 (by decide)
    unfold Lib.atoi
    simp only [e1, e2, Bool.false_eq_true, if_false]
    rw [Lib.decNat, if_neg (by simp), valN_dec _ h]; rfl
theorem valN_lt : ∀ d : List UInt8, (∀ b ∈ d, isDg b = true) → valN d < 10 ^ d.length := by
  refine bsnoc (fun _ => by decide) ?_
  intro d b ih h
  have h1 := ih fun x hx => h x (List.mem_append_left _ hx)
  have hb := dg_range (h b (by simp))
  rw [valN_snoc, List.length_append, List.length_singleton, Nat.pow_succ]
  omega
def digs (s : List UInt8) : List UInt8 := s.takeWhile isDg
def rest (s : List UInt8) : List UInt8 := s.dropWhile isDg
theorem digs_rest (s : List UInt8) : digs s ++ rest s = s := List.takeWhile_append_dropWhile
theorem digs_all (s : List UInt8) : ∀ b ∈ digs s, isDg b = true := by
  induction s with
  | nil => intro b hb; cases hb
  | cons x xs ih =>
    intro b hb
    unfold digs at hb
    rw [List.takeWhile_cons] at hb
    by_cases h : isDg x = true
    · rw [if_pos h] at hb
      rcases List.mem_cons.1 hb with rfl | hb
      · exact h
      · exact ih b hb
    · rw [if_neg h] at hb; cases hb
theorem rest_len (s : List UInt8) : (rest s).length ≤ s.length := by
  have := congrArg List.length (digs_rest s)
  rw [List.length_append] at this
  omega
def badN (d : List UInt8) : Prop := d = [] ∨ (1 < d.length ∧ d.head? = some 48)
instance (d : List UInt8) : Decidable (badN d) := by unfold badN; infer_instance
theorem canon_of {s : List UInt8} (h : ¬ badN (digs s)) : Canon (digs s) := ⟨fun e => h (.inl e), digs_all s, fun e => h (.inr e)⟩
theorem take_dig {d r : List UInt8} (h : ∀ b ∈ d, isDg b = true) (hr : ∀ b, r.head? = some b → isDg b = false) : digs (d ++ r) = d ∧ rest (d ++ r) = r := by
  induction d with
  | nil =>
    rw [List.nil_append]
    cases r with
    | nil => exact ⟨rfl, rfl⟩
    | cons x xs =>
      have := hr x rfl
      exact ⟨by unfold digs; rw [List.takeWhile_cons, if_neg (by rw [this]; simp)], by unfold rest; rw [List.dropWhile_cons, if_neg (by rw [this]; simp)]⟩
  | cons x xs ih =>
    have hx := h x (List.mem_cons_self ..)
    obtain ⟨h1, h2⟩ := ih fun b hb => h b (List.mem_cons_of_mem _ hb)
    refine ⟨?_, ?_⟩
    · rw [List.cons_append]
      unfold digs at h1 ⊢
      rw [List.takeWhile_cons, if_pos hx, h1]
    · rw [List.cons_append]
      unfold rest at h2 ⊢
      rw [List.dropWhile_cons, if_pos hx, h2]
end Go.Rt
