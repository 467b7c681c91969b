/- Decimal numerals; the text of a set, read. No condition. -/
import Derived.Test.YtgcmajgkcahbnaaDoorYAT2
import Derived.Lib.Atoi

set_option linter.unusedSimpArgs false
set_option linter.unusedVariables false
namespace Go.Bs
open Go
/-! numerals -/
def isDg (b : UInt8) : Bool := decide (48 ≤ b.toNat) && decide (b.toNat ≤ 57)
def stepV (a : Nat) (b : UInt8) : Nat := 10 * a + (b.toNat - 48)
def valN (d : List UInt8) : Nat := d.foldl stepV 0
/-- A numeral as it is written: digits, at least one, none of them idle. -/
def Canon (d : List UInt8) : Prop := d ≠ [] ∧ (∀ b ∈ d, isDg b = true) ∧ ¬ (1 < d.length ∧ d.head? = some 48)
theorem valN_snoc (d : List UInt8) (b : UInt8) : valN (d ++ [b]) = 10 * valN d + (b.toNat - 48) := by
  unfold valN
  rw [List.foldl_append]; rfl
theorem bsnoc {P : List UInt8 → Prop} (h0 : P []) (h1 : ∀ l x, P l → P (l ++ [x])) : ∀ l, P l := by
  intro l
  rw [← List.reverse_reverse l]
  induction l.reverse with
  | nil => exact h0
  | cons x xs ih => rw [List.reverse_cons]; exact h1 _ _ ih
theorem dg_range {b : UInt8} (h : isDg b = true) : 48 ≤ b.toNat ∧ b.toNat ≤ 57 := by
  unfold isDg at h
  simpa using h
theorem u8_ext {a b : UInt8} (h : a.toNat = b.toNat) : a = b := UInt8.toNat_inj.1 h
theorem valN_low : ∀ d : List UInt8, (∀ b ∈ d, isDg b = true) → d ≠ [] → d.head? ≠ some 48 → 10 ^ (d.length - 1) ≤ valN d := by
  refine bsnoc (fun _ h => absurd rfl h) ?_
  intro d b ih hd _ hh
  rw [valN_snoc, List.length_append, List.length_singleton, Nat.add_sub_cancel]
  cases d with
  | nil =>
    have hb := dg_range (hd b (by simp))
    have hne : b.toNat ≠ 48 := fun e => hh (by rw [List.nil_append]; show some b = some 48; rw [u8_ext (a := b) (b := 48) e])
    simp only [List.length_nil, Nat.pow_zero]
    omega
  | cons x xs =>
    have h := ih (fun b hb => hd b (List.mem_append_left _ hb)) (by simp) (by simpa using hh)
    rw [List.length_cons, Nat.add_sub_cancel] at h
    rw [List.length_cons, Nat.pow_succ]
    omega
theorem valN_pos {d : List UInt8} (h1 : ∀ b ∈ d, isDg b = true) (h2 : d ≠ []) (h3 : d.head? ≠ some 48) : 1 ≤ valN d :=
  Nat.le_trans (Nat.pow_pos (by decide)) (valN_low d h1 h2 h3)
theorem Canon.dig : ∀ d : List UInt8, Canon d → Lib.decDigits (valN d) = d := by
  refine bsnoc (fun h => absurd rfl h.1) ?_
  intro d b ih h
  obtain ⟨_, hd, hh⟩ := h
  have hb := dg_range (hd b (by simp))
  rw [valN_snoc]
  cases d with
  | nil =>
    have e : 10 * valN [] + (b.toNat - 48) = b.toNat - 48 := by show 10 * 0 + _ = _; omega
    rw [e, Lib.decDigits, dif_pos (by omega), List.nil_append]
    congr 1
    exact u8_ext (by rw [UInt8.toNat_ofNat']; omega)
  | cons x xs =>
    have hx : (x :: xs).head? ≠ some 48 := fun e => hh ⟨by simp, by simpa using e⟩
    have hc : Canon (x :: xs) := ⟨by simp, fun b hb => hd b (List.mem_append_left _ hb), fun e => hx e.2⟩
    have hp := valN_pos hc.2.1 hc.1 hx
    rw [Lib.decDigits, dif_neg (by omega), show (10 * valN (x :: xs) + (b.toNat - 48)) / 10 = valN (x :: xs) by omega, ih hc]
    congr 2
    exact u8_ext (by rw [UInt8.toNat_ofNat']; omega)
theorem isDg_of {n : Nat} (h : n < 10) : isDg (UInt8.ofNat (48 + n)) = true := by
  unfold isDg
  rw [UInt8.toNat_ofNat', Nat.mod_eq_of_lt (by omega), decide_eq_true (by omega), decide_eq_true (by omega)]; rfl
theorem dig_ok : ∀ u : Nat, Canon (Lib.decDigits u) ∧ valN (Lib.decDigits u) = u ∧ (1 ≤ u → (Lib.decDigits u).head? ≠ some 48) := by
  intro u
  induction u using Nat.strongRecOn with
  | _ u ih =>
    by_cases h : u < 10
    · rw [Lib.decDigits, dif_pos h]
      refine ⟨⟨by simp, ?_, by simp⟩, ?_, ?_⟩
      · intro b hb
        rw [List.mem_singleton] at hb; subst hb; exact isDg_of h
      · show 10 * 0 + ((UInt8.ofNat (48 + u)).toNat - 48) = u
        rw [UInt8.toNat_ofNat', Nat.mod_eq_of_lt (by omega)]; omega
      · intro hu e
        have e : (some (UInt8.ofNat (48 + u))).map (·.toNat) = some (48 : UInt8).toNat := congrArg (Option.map (·.toNat)) e
        rw [Option.map_some, UInt8.toNat_ofNat', Nat.mod_eq_of_lt (by omega)] at e
        injection e with e
        have e : 48 + u = 48 := e
        omega
    · obtain ⟨⟨h1, h2, h3⟩, h4, h5⟩ := ih (u / 10) (by omega)
      rw [Lib.decDigits, dif_neg h]
      have hh : (Lib.decDigits (u / 10) ++ [UInt8.ofNat (48 + u % 10)]).head? = (Lib.decDigits (u / 10)).head? := by
        cases hc : Lib.decDigits (u / 10) with
        | nil => exact absurd hc h1
        | cons x xs => rfl
      refine ⟨⟨by simp, ?_, ?_⟩, ?_, ?_⟩
      · intro b hb
        rcases List.mem_append.1 hb with hb | hb
        · exact h2 b hb
        · rw [List.mem_singleton] at hb; subst hb; exact isDg_of (by omega)
      · rintro ⟨_, e⟩
        rw [hh] at e
        exact h5 (by omega) e
      · rw [valN_snoc, h4, UInt8.toNat_ofNat', Nat.mod_eq_of_lt (by omega)]; omega
      · intro _ e
        rw [hh] at e
        exact h5 (by omega) e
theorem valN_dec (d : List UInt8) : (∀ b ∈ d, isDg b = true) → ∀ a : Nat, Lib.decFrom a d = some (d.foldl stepV a) := by
  induction d with
  | nil => intro _ a; rfl
  | cons b r ih =>
    intro h a
    have hb := dg_range (h b (List.mem_cons_self ..))
    rw [Lib.decFrom, Lib.digitVal, if_pos hb, List.foldl_cons]
    show Lib.decFrom (a * 10 + (b.toNat - 48)) r = _
    rw [ih (fun x hx => h x (List.mem_cons_of_mem _ hx))]
    unfold stepV
    rw [Nat.mul_comm a 10]
theorem atoi_canon {d : List UInt8} (h0 : d ≠ []) (h : ∀ b ∈ d, isDg b = true) : Lib.atoi d = some ((valN d : Nat) : Int) := by
  cases d with
  | nil => exact absurd rfl h0
  | cons b r =>
    have hb := dg_range (h b (List.mem_cons_self ..))
    have e1 : (b == 45) = false := by
      rw [beq_eq_false_iff_ne]; intro e; subst e; exact absurd hb.1 (by decide)
    have e2 : (b == 43) = false := by
      rw [beq_eq_false_iff_ne]; intro e; subst e; exact absurd hb.1 (by decide)
    unfold Lib.atoi
    simp only [e1, e2, Bool.false_eq_true, if_false]
    rw [Lib.decNat, if_neg (by simp), valN_dec _ h]; rfl
theorem valN_lt : ∀ d : List UInt8, (∀ b ∈ d, isDg b = true) → valN d < 10 ^ d.length := by
  refine bsnoc (fun _ => by decide) ?_
  intro d b ih h
  have h1 := ih fun x hx => h x (List.mem_append_left _ hx)
  have hb := dg_range (h b (by simp))
  rw [valN_snoc, List.length_append, List.length_singleton, Nat.pow_succ]
  omega
/-- The reference stops at a hundred thousand. -/
def stepS (a : Nat) (b : UInt8) : Nat := if a < 100000 then 10 * a + (b.toNat - 48) else a
def satN (d : List UInt8) : Nat := d.foldl stepS 0
theorem satN_snoc (d : List UInt8) (b : UInt8) : satN (d ++ [b]) = stepS (satN d) b := by
  unfold satN
  rw [List.foldl_append]; rfl
theorem satN_val : ∀ d : List UInt8, (∀ b ∈ d, isDg b = true) → (satN d = valN d ∧ valN d < 1000000) ∨ (100000 ≤ satN d ∧ 100000 ≤ valN d) ∧ satN d < 1000000 := by
  refine bsnoc (fun _ => .inl ⟨rfl, by decide⟩) ?_
  intro d b ih h
  have hb := dg_range (h b (by simp))
  rw [satN_snoc, valN_snoc]
  unfold stepS
  rcases ih (fun x hx => h x (List.mem_append_left _ hx)) with ⟨h1, h2⟩ | ⟨⟨h1, h2⟩, h3⟩
  · rw [h1]
    by_cases hc : valN d < 100000
    · rw [if_pos hc]
      by_cases h5 : valN d * 10 + (b.toNat - 48) < 1000000
      · exact .inl ⟨rfl, by omega⟩
      · omega
    · rw [if_neg hc]; right; omega
  · rw [if_neg (by omega)]; right; omega
theorem satN_lt {d : List UInt8} (h : ∀ b ∈ d, isDg b = true) : satN d < 1000000 := by
  rcases satN_val d h with ⟨h1, h2⟩ | ⟨_, h3⟩
  · omega
  · exact h3
theorem satN_big {d : List UInt8} (h : ∀ b ∈ d, isDg b = true) : 1023 < satN d ↔ 1023 < valN d := by
  rcases satN_val d h with ⟨h1, h2⟩ | ⟨⟨h1, h2⟩, h3⟩ <;> omega
theorem satN_eq {d : List UInt8} (h : ∀ b ∈ d, isDg b = true) (h1 : ¬ 1023 < valN d) : satN d = valN d := by
  rcases satN_val d h with ⟨h1, h2⟩ | ⟨⟨h1, h2⟩, h3⟩ <;> omega
/-! the text of a set, read -/
def digs (s : List UInt8) : List UInt8 := s.takeWhile isDg
def rest (s : List UInt8) : List UInt8 := s.dropWhile isDg
theorem digs_rest (s : List UInt8) : digs s ++ rest s = s := List.takeWhile_append_dropWhile
theorem digs_all (s : List UInt8) : ∀ b ∈ digs s, isDg b = true := by
  induction s with
  | nil => intro b hb; cases hb
  | cons x xs ih =>
    intro b hb
    unfold digs at hb
    rw [List.takeWhile_cons] at hb
    by_cases h : isDg x = true
    · rw [if_pos h] at hb
      rcases List.mem_cons.1 hb with rfl | hb
      · exact h
      · exact ih b hb
    · rw [if_neg h] at hb; cases hb
theorem rest_len (s : List UInt8) : (rest s).length ≤ s.length := by
  have := congrArg List.length (digs_rest s)
  rw [List.length_append] at this
  omega
def badN (d : List UInt8) : Prop := d = [] ∨ (1 < d.length ∧ d.head? = some 48)
instance (d : List UInt8) : Decidable (badN d) := by unfold badN; infer_instance
theorem canon_of {s : List UInt8} (h : ¬ badN (digs s)) : Canon (digs s) := ⟨fun e => h (.inl e), digs_all s, fun e => h (.inr e)⟩
/-- The numbers that a text lists, behind those read before; an error number. -/
def parS (last : Int) (out : List Int) (s : List UInt8) : List Int × Int :=
  if badN (digs s) then ([], 3)
  else if 1023 < valN (digs s) then ([], 2)
  else if (valN (digs s) : Int) ≤ last then ([], 3)
  else if rest s = [125] then (out ++ [(valN (digs s) : Int)], 0)
  else if h : (rest s).head? = some 32 then parS (valN (digs s)) (out ++ [(valN (digs s) : Int)]) (rest s).tail
  else ([], 3)
termination_by s.length
decreasing_by
  have h1 := rest_len s
  have h2 : rest s ≠ [] := fun e => by rw [e] at h; cases h
  have h3 : 0 < (rest s).length := List.length_pos_iff.2 h2
  rw [List.length_tail]
  omega
def parP (s : List UInt8) : List Int × Int :=
  if s = [123, 125] then ([], 0)
  else if s.head? = some 123 then parS (-1) [] s.tail
  else ([], 3)
/-- What is read, is what is written. -/
theorem parS_text : ∀ (k : Nat) (last : Int) (out : List Int) (s : List UInt8), s.length ≤ k → -1 ≤ last → ∀ res, parS last out s = (res, 0) → ∃ z zs, res = out ++ z :: zs ∧ (∀ y ∈ z :: zs, last < y ∧ y < 1024) ∧ Asc (z :: zs) ∧ s = Lib.join ((z :: zs).map Lib.itoa) [32] ++ [125]
  | k, last, out, s, hk, hl, res, h => by
    rw [parS] at h
    by_cases h1 : badN (digs s)
    · rw [if_pos h1] at h; cases h
    rw [if_neg h1] at h
    by_cases h2 : 1023 < valN (digs s)
    · rw [if_pos h2] at h; cases h
    rw [if_neg h2] at h
    by_cases h3 : (valN (digs s) : Int) ≤ last
    · rw [if_pos h3] at h; cases h
    rw [if_neg h3] at h
    have hd : Lib.itoa ((valN (digs s) : Nat) : Int) = digs s := by
      unfold Lib.itoa
      rw [if_neg (by omega), Int.toNat_natCast]
      exact Canon.dig _ (canon_of h1)
    by_cases h4 : rest s = [125]
    · rw [if_pos h4] at h
      cases h
      refine ⟨_, [], rfl, ?_, List.pairwise_singleton .., ?_⟩
      · intro y hy
        rw [List.mem_singleton] at hy; subst hy; omega
      · rw [List.map_cons, List.map_nil, Lib.join_one, hd, ← h4, digs_rest]
    rw [if_neg h4] at h
    by_cases h5 : (rest s).head? = some 32
    · rw [dif_pos h5] at h
      obtain ⟨t, ht⟩ : ∃ t, rest s = 32 :: t := by
        cases hr : rest s with
        | nil => rw [hr] at h5; cases h5
        | cons x t => rw [hr] at h5; injection h5 with h5; exact ⟨t, by rw [h5]⟩
      have hlen := congrArg List.length (digs_rest s)
      rw [List.length_append, ht, List.length_cons] at hlen
      cases k with
      | zero => omega
      | succ k =>
        obtain ⟨z, zs, q1, q2, q3, q4⟩ := parS_text k _ _ (rest s).tail (by rw [ht, List.tail_cons]; omega) (by omega) res h
        refine ⟨(valN (digs s) : Int), z :: zs, ?_, ?_, ?_, ?_⟩
        · rw [q1, List.append_assoc]; rfl
        · intro y hy
          rcases List.mem_cons.1 hy with rfl | hy
          · omega
          · have := q2 y hy; omega
        · exact List.pairwise_cons.2 ⟨fun y hy => (q2 y hy).1, q3⟩
        · rw [ht, List.tail_cons] at q4
          rw [List.map_cons, List.map_cons, Lib.join_cons, hd]
          refine (digs_rest s).symm.trans ?_
          rw [ht, q4, List.map_cons, Lib.join_cons]
          simp [Lib.joinTail]
    · rw [dif_neg h5] at h; cases h
theorem take_dig {d r : List UInt8} (h : ∀ b ∈ d, isDg b = true) (hr : ∀ b, r.head? = some b → isDg b = false) : digs (d ++ r) = d ∧ rest (d ++ r) = r := by
  induction d with
  | nil =>
    rw [List.nil_append]
    cases r with
    | nil => exact ⟨rfl, rfl⟩
    | cons x xs =>
      have := hr x rfl
      exact ⟨by unfold digs; rw [List.takeWhile_cons, if_neg (by rw [this]; simp)], by unfold rest; rw [List.dropWhile_cons, if_neg (by rw [this]; simp)]⟩
  | cons x xs ih =>
    have hx := h x (List.mem_cons_self ..)
    obtain ⟨h1, h2⟩ := ih fun b hb => h b (List.mem_cons_of_mem _ hb)
    refine ⟨?_, ?_⟩
    · rw [List.cons_append]
      unfold digs at h1 ⊢
      rw [List.takeWhile_cons, if_pos hx, h1]
    · rw [List.cons_append]
      unfold rest at h2 ⊢
      rw [List.dropWhile_cons, if_pos hx, h2]
/-- What is written, is read. -/
theorem parS_join : ∀ (zs : List Int) (z last : Int) (out : List Int), (∀ y ∈ z :: zs, last < y ∧ 0 ≤ y ∧ y < 1024) → Asc (z :: zs) → parS last out (Lib.join ((z :: zs).map Lib.itoa) [32] ++ [125]) = (out ++ z :: zs, 0)
  | zs, z, last, out, h, ha => by
    obtain ⟨hz1, hz2, hz3⟩ := h z (List.mem_cons_self ..)
    obtain ⟨⟨c1, c2, c3⟩, c4, _⟩ := dig_ok z.toNat
    have hi : Lib.itoa z = Lib.decDigits z.toNat := by unfold Lib.itoa; rw [if_neg (by omega)]
    cases zs with
    | nil =>
      rw [List.map_cons, List.map_nil, Lib.join_one, hi, parS]
      obtain ⟨e1, e2⟩ := take_dig (r := [125]) c2 (fun b hb => by cases hb; decide)
      rw [e1, e2, c4, if_neg (fun e => by
        rcases e with e | e
        · exact c1 e
        · exact c3 e), if_neg (by omega), if_neg (by omega), if_pos rfl, Int.toNat_of_nonneg hz2]
    | cons y ys =>
      have e0 : Lib.join ((z :: y :: ys).map Lib.itoa) [32] ++ [125] = Lib.decDigits z.toNat ++ (32 :: (Lib.join ((y :: ys).map Lib.itoa) [32] ++ [125])) := by
        rw [List.map_cons, List.map_cons, Lib.join_cons, hi, Lib.join_cons]
        simp [Lib.joinTail]
      rw [e0, parS]
      obtain ⟨e1, e2⟩ := take_dig (r := 32 :: (Lib.join ((y :: ys).map Lib.itoa) [32] ++ [125])) c2 (fun b hb => by cases hb; decide)
      have ih := parS_join ys y z (out ++ [z]) (fun x hx => ⟨(List.pairwise_cons.1 ha).1 x hx, (h x (List.mem_cons_of_mem _ hx)).2⟩) (List.pairwise_cons.1 ha).2
      rw [e1, e2, c4, if_neg (fun e => by
        rcases e with e | e
        · exact c1 e
        · exact c3 e), if_neg (by omega), if_neg (by omega), if_neg (by
          intro e
          injection e with e _
          exact absurd e (by decide)), dif_pos List.head?_cons, List.tail_cons, Int.toNat_of_nonneg hz2, ih, List.append_assoc]
      rfl
theorem parP_text {S : Nat} (hS : SetOk S) : parP (textS S) = (els S, 0) := by
  unfold parP textS
  cases he : els S with
  | nil => rfl
  | cons z zs =>
    have hr : ∀ y ∈ z :: zs, -1 < y ∧ 0 ≤ y ∧ y < 1024 := fun y hy => by
      have := els_range (S := S) (z := y) (by rw [he]; exact hy)
      omega
    have ha : Asc (z :: zs) := by rw [← he]; exact asc_els S
    have h := parS_join zs z (-1) [] hr ha
    have hne : ¬ (123 :: (Lib.join ((z :: zs).map Lib.itoa) [32] ++ [125])) = [123, 125] := by
      intro e
      injection e with _ e
      rw [e] at h
      revert h
      rw [parS]
      have : badN (digs [125]) := .inl (by decide)
      rw [if_pos this]
      intro h; cases h
    rw [if_neg hne, if_pos List.head?_cons, List.tail_cons, h]; rfl
theorem text_parP {s : List UInt8} {res : List Int} (h : parP s = (res, 0)) : textS (fromL res) = s ∧ els (fromL res) = res := by
  unfold parP at h
  by_cases h1 : s = [123, 125]
  · rw [if_pos h1] at h
    cases h
    subst h1
    have e : els (fromL []) = [] := els_from List.Pairwise.nil (fun z hz => by cases hz)
    refine ⟨?_, e⟩
    unfold textS
    rw [e]; rfl
  · rw [if_neg h1] at h
    by_cases h2 : s.head? = some 123
    · rw [if_pos h2] at h
      obtain ⟨z, zs, q1, q2, q3, q4⟩ := parS_text _ _ _ _ (Nat.le_refl _) (by decide) res h
      rw [List.nil_append] at q1
      subst q1
      have e : els (fromL (z :: zs)) = z :: zs := els_from q3 (fun y hy => by have := q2 y hy; omega)
      refine ⟨?_, e⟩
      unfold textS
      rw [e, ← q4]
      cases s with
      | nil => cases h2
      | cons x t => rw [List.head?_cons, Option.some.injEq] at h2; rw [h2, List.tail_cons]
    · rw [if_neg h2] at h; cases h
theorem wth_from (S : Nat) (x : Int) : wthS S x = fromF S x := by
  unfold wthS fromF
  by_cases h : x < 0 ∨ x > 1023
  · rw [if_pos h, if_neg (by omega)]
  · rw [if_neg h, if_pos (by omega)]
theorem fromL_snoc (l : List Int) (x : Int) : fromL (l ++ [x]) = wthS (fromL l) x := by
  unfold fromL
  rw [List.foldl_append, wth_from]; rfl
theorem parS_len : ∀ (k : Nat) (last : Int) (out : List Int) (s : List UInt8), s.length ≤ k → (parS last out s).1.length ≤ out.length + s.length
  | k, last, out, s, hk => by
    rw [parS]
    split
    · exact Nat.zero_le _
    split
    · exact Nat.zero_le _
    split
    · exact Nat.zero_le _
    rename_i h1 _ _
    have hp : 0 < (digs s).length := List.length_pos_iff.2 (fun e => h1 (.inl e))
    have hlen := congrArg List.length (digs_rest s)
    rw [List.length_append] at hlen
    split
    · show (out ++ _).length ≤ _
      rw [List.length_append, List.length_singleton]; omega
    split
    · rename_i h5
      obtain ⟨t, ht⟩ : ∃ t, rest s = 32 :: t := by
        cases hr : rest s with
        | nil => rw [hr] at h5; cases h5
        | cons x t => rw [hr] at h5; injection h5 with h5; exact ⟨t, by rw [h5]⟩
      rw [ht, List.length_cons] at hlen
      cases k with
      | zero => omega
      | succ k =>
        have := parS_len k (valN (digs s)) (out ++ [(valN (digs s) : Int)]) (rest s).tail (by rw [ht, List.tail_cons]; omega)
        rw [List.length_append, List.length_singleton, ht, List.tail_cons] at this
        rw [ht, List.tail_cons]
        omega
    · exact Nat.zero_le _
end Go.Bs
