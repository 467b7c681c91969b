/- Sets as natural numbers and as sorted lists: plain laws. No condition. -/
import Derived.Test.YtgcmajgkcahbnaaDoorXInv

set_option linter.unusedSimpArgs false
set_option linter.unusedVariables false
namespace Go.Bs

/-- The elements of a set. -/
def els (S : Nat) : List Int := ((List.range 1024).filter (fun n => S.testBit n)).map (fun n : Nat => (n : Int))
def Asc (l : List Int) : Prop := l.Pairwise (· < ·)

theorem mem_els {S : Nat} {z : Int} : z ∈ els S ↔ ∃ n : Nat, n < 1024 ∧ S.testBit n = true ∧ z = n := by
  unfold els
  simp only [List.mem_map, List.mem_filter, List.mem_range]
  constructor
  · rintro ⟨n, ⟨h1, h2⟩, rfl⟩; exact ⟨n, h1, h2, rfl⟩
  · rintro ⟨n, h1, h2, rfl⟩; exact ⟨n, ⟨h1, h2⟩, rfl⟩
theorem mem_els' {S n : Nat} : (n : Int) ∈ els S ↔ n < 1024 ∧ S.testBit n = true := by
  rw [mem_els]
  constructor
  · rintro ⟨m, h1, h2, h3⟩
    have : n = m := by omega
    subst this; exact ⟨h1, h2⟩
  · rintro ⟨h1, h2⟩; exact ⟨n, h1, h2, rfl⟩
theorem asc_els (S : Nat) : Asc (els S) := by
  unfold els Asc
  rw [List.pairwise_map]
  refine List.Pairwise.imp ?_ (List.Pairwise.filter _ List.pairwise_lt_range)
  intro a b h
  omega
theorem Asc.ext : ∀ {l m : List Int}, Asc l → Asc m → (∀ z, z ∈ l ↔ z ∈ m) → l = m
  | [], [], _, _, _ => rfl
  | [], y :: m, _, _, h => by have := (h y).2 (List.mem_cons_self ..); cases this
  | x :: l, [], _, _, h => by have := (h x).1 (List.mem_cons_self ..); cases this
  | x :: l, y :: m, hl, hm, h => by
    have hl' := List.pairwise_cons.1 hl
    have hm' := List.pairwise_cons.1 hm
    have h1 := (h x).1 (List.mem_cons_self ..)
    have h2 := (h y).2 (List.mem_cons_self ..)
    have hxy : x = y := by
      rcases List.mem_cons.1 h1 with h1 | h1
      · exact h1
      · rcases List.mem_cons.1 h2 with h2 | h2
        · exact h2.symm
        · have := hm'.1 x h1
          have := hl'.1 y h2
          omega
    subst hxy
    congr 1
    refine Asc.ext hl'.2 hm'.2 (fun z => ?_)
    constructor
    · intro hz
      rcases List.mem_cons.1 ((h z).1 (List.mem_cons_of_mem _ hz)) with e | e
      · have := hl'.1 z hz; omega
      · exact e
    · intro hz
      rcases List.mem_cons.1 ((h z).2 (List.mem_cons_of_mem _ hz)) with e | e
      · have := hm'.1 z hz; omega
      · exact e
/-- No element is 1024 or more. -/
def SetOk (S : Nat) : Prop := ∀ n, 1024 ≤ n → S.testBit n = false
theorem bit_lt {S n : Nat} (hS : SetOk S) (h : S.testBit n = true) : n < 1024 := by
  rcases Nat.lt_or_ge n 1024 with h1 | h1
  · exact h1
  · rw [hS n h1] at h; cases h
theorem els_inj {S T : Nat} (hS : SetOk S) (hT : SetOk T) (h : els S = els T) : S = T := by
  refine Nat.eq_of_testBit_eq (fun n => ?_)
  have hh : (n : Int) ∈ els S ↔ (n : Int) ∈ els T := by rw [h]
  rw [mem_els', mem_els'] at hh
  cases hs : S.testBit n with
  | true =>
    have h1 := bit_lt hS hs
    exact (hh.1 ⟨h1, hs⟩).2.symm
  | false =>
    cases ht : T.testBit n with
    | false => rfl
    | true =>
      have h1 := bit_lt hT ht
      have := (hh.2 ⟨h1, ht⟩).2
      rw [hs] at this; cases this

/-- The reference's operations on lists. -/
def insL : List Int → Int → List Int
  | [], n => [n]
  | x :: xs, n => if x > n then n :: x :: xs else x :: insL xs n
def withL (r : List Int) (n : Int) : List Int := if n < 0 ∨ n > 1023 ∨ n ∈ r then r else insL r n
def withoutL (r : List Int) (n : Int) : List Int := r.filter (fun x => decide (x ≠ n))
def andL (a b : List Int) : List Int := a.filter (fun x => decide (x ∈ b))
def minusL (a b : List Int) : List Int := a.filter (fun x => decide (¬ x ∈ b))
def orL (a b : List Int) : List Int := b.foldl withL a
def ofL (l : List Int) : List Int := l.foldl withL []
/-- Comparison of lists from the end: of the reversed lists. -/
def cmpR : List Int → List Int → Int
  | [], [] => 0
  | _ :: _, [] => 1
  | [], _ :: _ => -1
  | x :: xs, y :: ys => if x > y then 1 else if x < y then -1 else cmpR xs ys
def cmpL (a b : List Int) : Int := cmpR a.reverse b.reverse
def cmpLs : List (List Int) → List (List Int) → Int
  | [], [] => 0
  | _ :: _, [] => 1
  | [], _ :: _ => -1
  | x :: xs, y :: ys => if cmpL x y = 0 then cmpLs xs ys else cmpL x y

theorem mem_insL {l : List Int} {n z : Int} : z ∈ insL l n ↔ z = n ∨ z ∈ l := by
  induction l with
  | nil => simp [insL]
  | cons x xs ih =>
    unfold insL
    by_cases h : x > n
    · rw [if_pos h]; simp
    · rw [if_neg h]; simp only [List.mem_cons, ih]
      constructor
      · rintro (h | h | h)
        · exact .inr (.inl h)
        · exact .inl h
        · exact .inr (.inr h)
      · rintro (h | h | h)
        · exact .inr (.inl h)
        · exact .inl h
        · exact .inr (.inr h)
theorem asc_insL {l : List Int} {n : Int} (h : Asc l) (hn : ¬ n ∈ l) : Asc (insL l n) := by
  induction l with
  | nil => exact List.pairwise_singleton ..
  | cons x xs ih =>
    have hx := List.pairwise_cons.1 h
    unfold insL
    by_cases hc : x > n
    · rw [if_pos hc]
      refine List.pairwise_cons.2 ⟨fun y hy => ?_, h⟩
      rcases List.mem_cons.1 hy with rfl | hy
      · exact hc
      · have := hx.1 y hy; omega
    · rw [if_neg hc]
      have hne : x ≠ n := fun e => hn (e ▸ List.mem_cons_self ..)
      refine List.pairwise_cons.2 ⟨fun y hy => ?_, ih hx.2 (fun e => hn (List.mem_cons_of_mem _ e))⟩
      rcases mem_insL.1 hy with rfl | hy
      · omega
      · exact hx.1 y hy
theorem mem_withL {l : List Int} {n z : Int} : z ∈ withL l n ↔ (0 ≤ n ∧ n ≤ 1023 ∧ z = n) ∨ z ∈ l := by
  unfold withL
  by_cases h : n < 0 ∨ n > 1023 ∨ n ∈ l
  · rw [if_pos h]
    constructor
    · exact .inr
    · rintro (⟨h1, h2, rfl⟩ | h3)
      · rcases h with h | h | h
        · omega
        · omega
        · exact h
      · exact h3
  · rw [if_neg h, mem_insL]
    constructor
    · rintro (h1 | h1)
      · exact .inl ⟨by omega, by omega, h1⟩
      · exact .inr h1
    · rintro (⟨_, _, h1⟩ | h1)
      · exact .inl h1
      · exact .inr h1
theorem asc_withL {l : List Int} {n : Int} (h : Asc l) : Asc (withL l n) := by
  unfold withL
  by_cases hc : n < 0 ∨ n > 1023 ∨ n ∈ l
  · rw [if_pos hc]; exact h
  · rw [if_neg hc]; exact asc_insL h (fun e => hc (.inr (.inr e)))
theorem asc_filter {l : List Int} (p : Int → Bool) (h : Asc l) : Asc (l.filter p) := List.Pairwise.filter _ h

/-- Sets with one more, with one less. -/
def wthS (S : Nat) (n : Int) : Nat := if n < 0 ∨ n > 1023 then S else S ||| 2 ^ n.toNat
def minS (S T : Nat) : Nat := S ^^^ (S &&& T)
def wtoS (S : Nat) (n : Int) : Nat := if n < 0 ∨ n > 1023 then S else minS S (2 ^ n.toNat)
theorem tb_minS (S T i : Nat) : (minS S T).testBit i = (S.testBit i && !T.testBit i) := by
  unfold minS
  rw [Nat.testBit_xor, Nat.testBit_and]
  cases S.testBit i <;> cases T.testBit i <;> rfl
theorem els_minS (S T : Nat) : els (minS S T) = minusL (els S) (els T) := by
  refine Asc.ext (asc_els _) (asc_filter _ (asc_els _)) (fun z => ?_)
  unfold minusL
  rw [List.mem_filter, mem_els, mem_els]
  constructor
  · rintro ⟨n, h1, h2, rfl⟩
    rw [tb_minS, Bool.and_eq_true, Bool.not_eq_true'] at h2
    exact ⟨⟨n, h1, h2.1, rfl⟩, decide_eq_true (by rw [mem_els', h2.2]; simp)⟩
  · rintro ⟨⟨n, h1, h2, rfl⟩, h3⟩
    have h3 := of_decide_eq_true h3
    rw [mem_els'] at h3
    refine ⟨n, h1, ?_, rfl⟩
    rw [tb_minS, h2]
    cases hT : T.testBit n with
    | false => rfl
    | true => exact absurd ⟨h1, hT⟩ h3
theorem els_and (S T : Nat) : els (S &&& T) = andL (els S) (els T) := by
  refine Asc.ext (asc_els _) (asc_filter _ (asc_els _)) (fun z => ?_)
  unfold andL
  rw [List.mem_filter, mem_els, mem_els]
  constructor
  · rintro ⟨n, h1, h2, rfl⟩
    rw [Nat.testBit_and, Bool.and_eq_true] at h2
    exact ⟨⟨n, h1, h2.1, rfl⟩, decide_eq_true (mem_els'.2 ⟨h1, h2.2⟩)⟩
  · rintro ⟨⟨n, h1, h2, rfl⟩, h3⟩
    have h3 := (mem_els'.1 (of_decide_eq_true h3)).2
    exact ⟨n, h1, by rw [Nat.testBit_and, h2, h3]; rfl, rfl⟩
theorem asc_foldW (l : List Int) : ∀ {a : List Int}, Asc a → Asc (l.foldl withL a) := by
  induction l with
  | nil => exact fun h => h
  | cons x xs ih => exact fun h => ih (asc_withL h)
theorem mem_foldW (l : List Int) {z : Int} : ∀ {a : List Int}, z ∈ l.foldl withL a ↔ z ∈ a ∨ (z ∈ l ∧ 0 ≤ z ∧ z ≤ 1023) := by
  induction l with
  | nil => intro a; simp
  | cons x xs ih =>
    intro a
    rw [List.foldl_cons, ih, mem_withL, List.mem_cons]
    constructor
    · rintro ((⟨h1, h2, rfl⟩ | h) | ⟨h1, h2⟩)
      · exact .inr ⟨.inl rfl, h1, h2⟩
      · exact .inl h
      · exact .inr ⟨.inr h1, h2⟩
    · rintro (h | ⟨rfl | h1, h2⟩)
      · exact .inl (.inr h)
      · exact .inl (.inl ⟨h2.1, h2.2, rfl⟩)
      · exact .inr ⟨h1, h2⟩
theorem els_or (S T : Nat) : els (S ||| T) = orL (els S) (els T) := by
  refine Asc.ext (asc_els _) (asc_foldW _ (asc_els _)) (fun z => ?_)
  unfold orL
  rw [mem_foldW, mem_els, mem_els, mem_els]
  constructor
  · rintro ⟨n, h1, h2, rfl⟩
    rw [Nat.testBit_or, Bool.or_eq_true] at h2
    rcases h2 with h2 | h2
    · exact .inl ⟨n, h1, h2, rfl⟩
    · exact .inr ⟨⟨n, h1, h2, rfl⟩, by omega, by omega⟩
  · rintro (⟨n, h1, h2, rfl⟩ | ⟨⟨n, h1, h2, rfl⟩, h3⟩)
    · exact ⟨n, h1, by rw [Nat.testBit_or, h2]; rfl, rfl⟩
    · exact ⟨n, h1, by rw [Nat.testBit_or, h2, Bool.or_true], rfl⟩
theorem tb_pow (n i : Nat) : (2 ^ n).testBit i = decide (n = i) := Nat.testBit_two_pow
theorem els_wth (S : Nat) (n : Int) : els (wthS S n) = withL (els S) n := by
  refine Asc.ext (asc_els _) (asc_withL (asc_els _)) (fun z => ?_)
  rw [mem_withL]
  unfold wthS
  by_cases h : n < 0 ∨ n > 1023
  · rw [if_pos h]
    constructor
    · exact .inr
    · rintro (⟨h1, h2, _⟩ | h1)
      · omega
      · exact h1
  · rw [if_neg h, mem_els, mem_els]
    obtain ⟨k, rfl⟩ : ∃ k : Nat, n = k := ⟨n.toNat, by omega⟩
    simp only [Int.toNat_natCast, Nat.testBit_or, tb_pow, Bool.or_eq_true, decide_eq_true_eq]
    constructor
    · rintro ⟨m, h1, h2 | h2, rfl⟩
      · exact .inr ⟨m, h1, h2, rfl⟩
      · exact .inl ⟨by omega, by omega, by omega⟩
    · rintro (⟨h1, h2, rfl⟩ | ⟨m, h1, h2, rfl⟩)
      · exact ⟨k, by omega, .inr rfl, rfl⟩
      · exact ⟨m, h1, .inl h2, rfl⟩
theorem tb_wto (S : Nat) (n i : Nat) : (minS S (2 ^ n)).testBit i = (S.testBit i && !decide (n = i)) := by rw [tb_minS, tb_pow]
theorem els_wto (S : Nat) (n : Int) : els (wtoS S n) = withoutL (els S) n := by
  refine Asc.ext (asc_els _) (asc_filter _ (asc_els _)) (fun z => ?_)
  unfold withoutL wtoS
  rw [List.mem_filter, decide_eq_true_eq]
  by_cases h : n < 0 ∨ n > 1023
  · rw [if_pos h]
    constructor
    · intro h1
      refine ⟨h1, ?_⟩
      obtain ⟨m, h2, h3, rfl⟩ := mem_els.1 h1
      omega
    · exact fun h => h.1
  · rw [if_neg h, mem_els, mem_els]
    obtain ⟨k, rfl⟩ : ∃ k : Nat, n = k := ⟨n.toNat, by omega⟩
    simp only [Int.toNat_natCast, tb_wto, Bool.and_eq_true, Bool.not_eq_true', decide_eq_false_iff_not]
    constructor
    · rintro ⟨m, h1, ⟨h2, h3⟩, rfl⟩
      exact ⟨⟨m, h1, h2, rfl⟩, by omega⟩
    · rintro ⟨⟨m, h1, h2, rfl⟩, h3⟩
      exact ⟨m, h1, ⟨h2, by omega⟩, rfl⟩

/-- The words of a set. -/
def wdS (S i : Nat) : Nat := S / 2 ^ (64 * i) % 2 ^ 64
theorem tb_wdS (S i j : Nat) : (wdS S i).testBit j = (decide (j < 64) && S.testBit (64 * i + j)) := by
  unfold wdS
  rw [Nat.testBit_mod_two_pow, Nat.testBit_div_two_pow, Nat.add_comm]
theorem wdS_lt (S i : Nat) : wdS S i < 18446744073709551616 := Nat.mod_lt _ (by decide)
theorem word_ext {a b : Nat} (ha : a < 18446744073709551616) (hb : b < 18446744073709551616) (h : ∀ j, j < 64 → a.testBit j = b.testBit j) : a = b := by
  refine Nat.eq_of_testBit_eq (fun j => ?_)
  rcases Nat.lt_or_ge j 64 with h1 | h1
  · exact h j h1
  · have h2 : (18446744073709551616 : Nat) ≤ 2 ^ j := Nat.le_trans (show 18446744073709551616 ≤ 2 ^ 64 by decide) (Nat.pow_le_pow_right (by decide) h1)
    rw [Nat.testBit_lt_two_pow (Nat.lt_of_lt_of_le ha h2), Nat.testBit_lt_two_pow (Nat.lt_of_lt_of_le hb h2)]
theorem tb_hi {a j : Nat} (ha : a < 18446744073709551616) (h : 64 ≤ j) : a.testBit j = false := by
  have h2 : (18446744073709551616 : Nat) ≤ 2 ^ j := Nat.le_trans (show 18446744073709551616 ≤ 2 ^ 64 by decide) (Nat.pow_le_pow_right (by decide) h)
  exact Nat.testBit_lt_two_pow (Nat.lt_of_lt_of_le ha h2)
theorem set_ext {S T : Nat} (hS : SetOk S) (hT : SetOk T) (h : ∀ i, i < 16 → wdS S i = wdS T i) : S = T := by
  refine Nat.eq_of_testBit_eq (fun n => ?_)
  rcases Nat.lt_or_ge n 1024 with h1 | h1
  · have h2 := congrArg (fun x => x.testBit (n % 64)) (h (n / 64) (by omega))
    simp only [tb_wdS, show n % 64 < 64 by omega, decide_true, Bool.true_and] at h2
    rwa [show 64 * (n / 64) + n % 64 = n by omega] at h2
  · rw [hS n h1, hT n h1]
/-- A set of words that are given. -/
def ofWs : (Nat → Nat) → Nat → Nat
  | _, 0 => 0
  | f, k + 1 => ofWs f k ||| (f k % 2 ^ 64) <<< (64 * k)
theorem tb_ofWs (f : Nat → Nat) : ∀ k n, (ofWs f k).testBit n = (decide (n / 64 < k) && (f (n / 64)).testBit (n % 64))
  | 0, n => by simp [ofWs]
  | k + 1, n => by
    simp only [ofWs, Nat.testBit_or, tb_ofWs f k n, Nat.testBit_shiftLeft, Nat.testBit_mod_two_pow]
    rcases Nat.lt_trichotomy (n / 64) k with h | h | h
    · simp only [h, show n / 64 < k + 1 by omega, show ¬ (n ≥ 64 * k) by omega, decide_true, decide_false, Bool.true_and, Bool.false_and, Bool.or_false]
    · subst h
      simp only [Nat.lt_irrefl, show n ≥ 64 * (n / 64) by omega, show n - 64 * (n / 64) = n % 64 by omega, show n % 64 < 64 by omega, Nat.lt_succ_self, decide_true, decide_false, Bool.true_and, Bool.false_and, Bool.false_or]
    · simp only [show ¬ (n / 64 < k) by omega, show ¬ (n / 64 < k + 1) by omega, show ¬ (n - 64 * k < 64) by omega, decide_false, Bool.false_and, Bool.and_false, Bool.or_false]
theorem ok_ofWs (f : Nat → Nat) : SetOk (ofWs f 16) := by
  intro n hn
  rw [tb_ofWs, decide_eq_false (by omega)]; rfl
theorem wdS_ofWs (f : Nat → Nat) (hf : ∀ i, i < 16 → f i < 18446744073709551616) {i : Nat} (hi : i < 16) : wdS (ofWs f 16) i = f i := by
  refine word_ext (wdS_lt _ _) (hf i hi) (fun j hj => ?_)
  rw [tb_wdS, tb_ofWs, show (64 * i + j) / 64 = i by omega, show (64 * i + j) % 64 = j by omega, decide_eq_true hj, decide_eq_true hi]; rfl
theorem ok_and {S T : Nat} (h : SetOk S) : SetOk (S &&& T) := fun n hn => by rw [Nat.testBit_and, h n hn]; rfl
theorem ok_or {S T : Nat} (h : SetOk S) (h2 : SetOk T) : SetOk (S ||| T) := fun n hn => by rw [Nat.testBit_or, h n hn, h2 n hn]; rfl
theorem ok_min {S T : Nat} (h : SetOk S) : SetOk (minS S T) := fun n hn => by rw [tb_minS, h n hn]; rfl
theorem ok_wth {S : Nat} {n : Int} (h : SetOk S) : SetOk (wthS S n) := by
  unfold wthS
  by_cases hc : n < 0 ∨ n > 1023
  · rw [if_pos hc]; exact h
  · rw [if_neg hc]
    intro m hm
    rw [Nat.testBit_or, h m hm, tb_pow, decide_eq_false (by omega)]; rfl
theorem ok_wto {S : Nat} {n : Int} (h : SetOk S) : SetOk (wtoS S n) := by
  unfold wtoS
  by_cases hc : n < 0 ∨ n > 1023
  · rw [if_pos hc]; exact h
  · rw [if_neg hc]; exact ok_min h
theorem ok_zero : SetOk 0 := fun n _ => Nat.zero_testBit n
theorem wd_and (S T i : Nat) : wdS (S &&& T) i = wdS S i &&& wdS T i := by
  refine Nat.eq_of_testBit_eq (fun j => ?_)
  rw [Nat.testBit_and, tb_wdS, tb_wdS, tb_wdS, Nat.testBit_and]
  cases decide (j < 64) <;> cases S.testBit (64 * i + j) <;> rfl
theorem wd_or (S T i : Nat) : wdS (S ||| T) i = wdS S i ||| wdS T i := by
  refine Nat.eq_of_testBit_eq (fun j => ?_)
  rw [Nat.testBit_or, tb_wdS, tb_wdS, tb_wdS, Nat.testBit_or]
  cases decide (j < 64) <;> cases S.testBit (64 * i + j) <;> rfl
theorem wd_min (S T i : Nat) : wdS (minS S T) i = minS (wdS S i) (wdS T i) := by
  refine Nat.eq_of_testBit_eq (fun j => ?_)
  rw [tb_minS, tb_wdS, tb_wdS, tb_wdS, tb_minS]
  cases decide (j < 64) <;> cases S.testBit (64 * i + j) <;> rfl
theorem wd_zero (i : Nat) : wdS 0 i = 0 := by unfold wdS; rw [Nat.zero_div]
theorem wd_pow (n i : Nat) : wdS (2 ^ n) i = if n / 64 = i then 2 ^ (n % 64) else 0 := by
  refine Nat.eq_of_testBit_eq (fun j => ?_)
  rw [tb_wdS, tb_pow]
  by_cases h : n / 64 = i
  · rw [if_pos h, tb_pow]
    subst h
    by_cases hj : j < 64
    · rw [decide_eq_true hj, Bool.true_and]
      exact decide_eq_decide.2 (by omega)
    · rw [decide_eq_false hj, decide_eq_false (show ¬ n % 64 = j by omega)]; rfl
  · rw [if_neg h, Nat.zero_testBit]
    by_cases hj : j < 64
    · rw [decide_eq_false (show ¬ n = 64 * i + j by omega), Bool.and_false]
    · rw [decide_eq_false hj]; rfl
end Go.Bs

set_option linter.unusedSimpArgs false
set_option linter.unusedVariables false
namespace Go.Bs

def Desc (l : List Int) : Prop := l.Pairwise (· > ·)
theorem asc_rev {l : List Int} (h : Asc l) : Desc l.reverse := by
  unfold Desc; rw [List.pairwise_reverse]; exact h
/-- What the comparison of descending lists says. -/
theorem cmpR_says : ∀ {a b : List Int}, Desc a → Desc b →
    (cmpR a b = 0 ∧ a = b) ∨ (cmpR a b = 1 ∧ ∃ x, x ∈ a ∧ ¬ x ∈ b ∧ ∀ y, x < y → (y ∈ a ↔ y ∈ b)) ∨ (cmpR a b = -1 ∧ ∃ x, ¬ x ∈ a ∧ x ∈ b ∧ ∀ y, x < y → (y ∈ a ↔ y ∈ b))
  | [], [], _, _ => .inl ⟨rfl, rfl⟩
  | x :: xs, [], ha, _ => by
    refine .inr (.inl ⟨rfl, x, List.mem_cons_self .., List.not_mem_nil, fun y hy => ⟨fun h => ?_, fun h => absurd h List.not_mem_nil⟩⟩)
    have := (List.pairwise_cons.1 ha).1
    rcases List.mem_cons.1 h with rfl | h
    · omega
    · have := this y h; omega
  | [], y :: ys, _, hb => by
    refine .inr (.inr ⟨rfl, y, List.not_mem_nil, List.mem_cons_self .., fun z hz => ⟨fun h => absurd h List.not_mem_nil, fun h => ?_⟩⟩)
    have := (List.pairwise_cons.1 hb).1
    rcases List.mem_cons.1 h with rfl | h
    · omega
    · have := this z h; omega
  | x :: xs, y :: ys, ha, hb => by
    have ha' := List.pairwise_cons.1 ha
    have hb' := List.pairwise_cons.1 hb
    unfold cmpR
    by_cases h1 : x > y
    · rw [if_pos h1]
      refine .inr (.inl ⟨rfl, x, List.mem_cons_self .., fun h => ?_, fun z hz => ⟨fun h => ?_, fun h => ?_⟩⟩)
      · rcases List.mem_cons.1 h with rfl | h
        · omega
        · have := hb'.1 x h; omega
      · rcases List.mem_cons.1 h with rfl | h
        · omega
        · have := ha'.1 z h; omega
      · rcases List.mem_cons.1 h with rfl | h
        · omega
        · have := hb'.1 z h; omega
    · rw [if_neg h1]
      by_cases h2 : x < y
      · rw [if_pos h2]
        refine .inr (.inr ⟨rfl, y, fun h => ?_, List.mem_cons_self .., fun z hz => ⟨fun h => ?_, fun h => ?_⟩⟩)
        · rcases List.mem_cons.1 h with rfl | h
          · omega
          · have := ha'.1 y h; omega
        · rcases List.mem_cons.1 h with rfl | h
          · omega
          · have := ha'.1 z h; omega
        · rcases List.mem_cons.1 h with rfl | h
          · omega
          · have := hb'.1 z h; omega
      · rw [if_neg h2]
        have : x = y := by omega
        subst this
        rcases cmpR_says ha'.2 hb'.2 with ⟨e, rfl⟩ | ⟨e, z, hz, hz2, hz3⟩ | ⟨e, z, hz, hz2, hz3⟩
        · exact .inl ⟨e, rfl⟩
        · have hzx := ha'.1 z hz
          refine .inr (.inl ⟨e, z, List.mem_cons_of_mem _ hz, fun h => ?_, fun u hu => ?_⟩)
          · rcases List.mem_cons.1 h with rfl | h
            · omega
            · exact hz2 h
          · rw [List.mem_cons, List.mem_cons, hz3 u hu]
        · have hzx := hb'.1 z hz2
          refine .inr (.inr ⟨e, z, fun h => ?_, List.mem_cons_of_mem _ hz2, fun u hu => ?_⟩)
          · rcases List.mem_cons.1 h with rfl | h
            · omega
            · exact hz h
          · rw [List.mem_cons, List.mem_cons, hz3 u hu]
/-- The order of sets is that of the numbers. -/
def cmpN (S T : Nat) : Int := if S < T then -1 else if S = T then 0 else 1
theorem lt_of_bit {S T n : Nat} (h1 : S.testBit n = false) (h2 : T.testBit n = true) (h : ∀ j, n < j → S.testBit j = T.testBit j) : S < T := by
  have h3 : S / 2 ^ (n + 1) = T / 2 ^ (n + 1) := Nat.eq_of_testBit_eq (fun j => by
    rw [Nat.testBit_div_two_pow, Nat.testBit_div_two_pow]; exact h _ (by omega))
  have e : ∀ S : Nat, S / 2 ^ n = 2 * (S / 2 ^ (n + 1)) + (S.testBit n).toNat := fun S => by
    rw [Nat.pow_succ, ← Nat.div_div_eq_div_mul, Nat.toNat_testBit]; omega
  have h4 : S / 2 ^ n < T / 2 ^ n := by rw [e S, e T, h3, h1, h2]; simp
  exact Nat.lt_of_div_lt_div h4
theorem lt_of_top {S T : Nat} (hS : SetOk S) (hT : SetOk T) {x : Int} (h1 : ¬ x ∈ els S) (h2 : x ∈ els T) (h3 : ∀ y, x < y → (y ∈ els S ↔ y ∈ els T)) : S < T := by
  obtain ⟨n, hn, hb, rfl⟩ := mem_els.1 h2
  have hs : S.testBit n = false := by
    cases hs : S.testBit n with
    | false => rfl
    | true => exact absurd (mem_els'.2 ⟨hn, hs⟩) h1
  refine lt_of_bit hs hb (fun j hj => ?_)
  rcases Nat.lt_or_ge j 1024 with hj2 | hj2
  · have := h3 j (by omega)
    rw [mem_els', mem_els'] at this
    cases hs : S.testBit j with
    | true => exact (this.1 ⟨hj2, hs⟩).2.symm
    | false =>
      cases ht : T.testBit j with
      | false => rfl
      | true => have := (this.2 ⟨hj2, ht⟩).2; rw [hs] at this; cases this
  · rw [hS j hj2, hT j hj2]
theorem cmp_els {S T : Nat} (hS : SetOk S) (hT : SetOk T) : cmpL (els S) (els T) = cmpN S T := by
  unfold cmpL cmpN
  rcases cmpR_says (asc_rev (asc_els S)) (asc_rev (asc_els T)) with ⟨e, h⟩ | ⟨e, x, h1, h2, h3⟩ | ⟨e, x, h1, h2, h3⟩
  · have h : els S = els T := List.reverse_inj.1 h
    have := els_inj hS hT h
    subst this
    rw [e, if_neg (Nat.lt_irrefl _), if_pos rfl]
  · simp only [List.mem_reverse] at h1 h2 h3
    have := lt_of_top hT hS h2 h1 (fun y hy => (h3 y hy).symm)
    rw [e, if_neg (by omega), if_neg (by omega)]
  · simp only [List.mem_reverse] at h1 h2 h3
    have := lt_of_top hS hT h1 h2 h3
    rw [e, if_pos this]
theorem cmpL_self {a b : List Int} (ha : Asc a) (hb : Asc b) : cmpL a b = 0 ↔ a = b := by
  unfold cmpL
  rcases cmpR_says (asc_rev ha) (asc_rev hb) with ⟨e, h⟩ | ⟨e, x, h1, h2, h3⟩ | ⟨e, x, h1, h2, h3⟩
  · exact ⟨fun _ => List.reverse_inj.1 h, fun _ => e⟩
  · rw [e]; refine ⟨fun h => by omega, fun h => ?_⟩; subst h; exact absurd h1 h2
  · rw [e]; refine ⟨fun h => by omega, fun h => ?_⟩; subst h; exact absurd h2 h1
theorem cmpR_refl (a : List Int) : cmpR a a = 0 := by
  induction a with
  | nil => rfl
  | cons x xs ih => unfold cmpR; rw [if_neg (by omega), if_neg (by omega)]; exact ih
theorem cmpL_refl (a : List Int) : cmpL a a = 0 := cmpR_refl _
/-- By words, from the greatest. -/
theorem div_eq_of {S T i : Nat} (hS : SetOk S) (hT : SetOk T) (h : ∀ k, i ≤ k → k < 16 → wdS S k = wdS T k) : S / 2 ^ (64 * i) = T / 2 ^ (64 * i) := by
  refine Nat.eq_of_testBit_eq (fun j => ?_)
  rw [Nat.testBit_div_two_pow, Nat.testBit_div_two_pow]
  rcases Nat.lt_or_ge (j + 64 * i) 1024 with h1 | h1
  · have h2 := congrArg (fun x => x.testBit ((j + 64 * i) % 64)) (h ((j + 64 * i) / 64) (by omega) (by omega))
    simp only [tb_wdS, show (j + 64 * i) % 64 < 64 by omega, decide_true, Bool.true_and] at h2
    rwa [show 64 * ((j + 64 * i) / 64) + (j + 64 * i) % 64 = j + 64 * i by omega] at h2
  · rw [hS _ h1, hT _ h1]
theorem div_step (S i : Nat) : S / 2 ^ (64 * i) = 18446744073709551616 * (S / 2 ^ (64 * (i + 1))) + wdS S i := by
  unfold wdS
  rw [show 64 * (i + 1) = 64 * i + 64 by omega, Nat.pow_add, ← Nat.div_div_eq_div_mul, show (2 : Nat) ^ 64 = 18446744073709551616 by decide]
  exact (Nat.div_add_mod _ _).symm
theorem lt_of_wd {S T i : Nat} (hS : SetOk S) (hT : SetOk T) (h : ∀ k, i + 1 ≤ k → k < 16 → wdS S k = wdS T k) (hi : wdS S i < wdS T i) : S < T := by
  have h1 := div_eq_of hS hT h
  have h2 : S / 2 ^ (64 * i) < T / 2 ^ (64 * i) := by rw [div_step S, div_step T, h1]; omega
  exact Nat.lt_of_div_lt_div h2
theorem cmpN_lt {S T : Nat} (h : S < T) : cmpN S T = -1 := if_pos h
theorem cmpN_gt {S T : Nat} (h : T < S) : cmpN S T = 1 := by unfold cmpN; rw [if_neg (by omega), if_neg (by omega)]
theorem cmpN_eq (S : Nat) : cmpN S S = 0 := by unfold cmpN; rw [if_neg (by omega), if_pos rfl]

/-- The least element. -/
def Lst (S n : Nat) : Prop := S.testBit n = true ∧ ∀ j, j < n → S.testBit j = false
theorem els_cons {S n : Nat} (hn : n < 1024) (h : Lst S n) : els S = (n : Int) :: els (minS S (2 ^ n)) := by
  refine Asc.ext (asc_els S) (List.pairwise_cons.2 ⟨fun z hz => ?_, asc_els _⟩) (fun z => ?_)
  · obtain ⟨m, h1, h2, rfl⟩ := mem_els.1 hz
    rw [tb_wto, Bool.and_eq_true, Bool.not_eq_true', decide_eq_false_iff_not] at h2
    have : n ≤ m := by
      rcases Nat.lt_or_ge m n with h3 | h3
      · have := h.2 m h3; rw [h2.1] at this; cases this
      · exact h3
    have := h2.2
    omega
  · rw [List.mem_cons, mem_els, mem_els]
    constructor
    · rintro ⟨m, h1, h2, rfl⟩
      by_cases e : n = m
      · exact .inl (by omega)
      · exact .inr ⟨m, h1, by rw [tb_wto, h2, decide_eq_false e]; rfl, rfl⟩
    · rintro (rfl | ⟨m, h1, h2, rfl⟩)
      · exact ⟨n, hn, h.1, rfl⟩
      · rw [tb_wto, Bool.and_eq_true] at h2
        exact ⟨m, h1, h2.1, rfl⟩
theorem els_nil {S : Nat} (h : ∀ n, n < 1024 → S.testBit n = false) : els S = [] := by
  rw [List.eq_nil_iff_forall_not_mem]
  intro z hz
  obtain ⟨n, h1, h2, _⟩ := mem_els.1 hz
  rw [h n h1] at h2; cases h2
theorem els_zero : els 0 = [] := els_nil (fun n _ => Nat.zero_testBit n)
/-- The least element by words. -/
theorem lst_of_wd {S i k : Nat} (hk : k < 64) (h0 : ∀ j, j < i → wdS S j = 0) (h : Lst (wdS S i) k) : Lst S (64 * i + k) := by
  refine ⟨?_, fun j hj => ?_⟩
  · have := h.1
    rw [tb_wdS, decide_eq_true hk, Bool.true_and] at this
    exact this
  · rcases Nat.lt_or_ge (j / 64) i with h1 | h1
    · have := congrArg (fun x => x.testBit (j % 64)) (h0 (j / 64) h1)
      simp only [tb_wdS, show j % 64 < 64 by omega, decide_true, Bool.true_and, Nat.zero_testBit] at this
      rwa [show 64 * (j / 64) + j % 64 = j by omega] at this
    · have h2 : j / 64 = i := by omega
      have := h.2 (j % 64) (by omega)
      rw [tb_wdS, decide_eq_true (show j % 64 < 64 by omega), Bool.true_and] at this
      rwa [show 64 * i + j % 64 = j by omega] at this
theorem zero_of_wd {S : Nat} (hS : SetOk S) (h : ∀ j, j < 16 → wdS S j = 0) : S = 0 :=
  set_ext hS ok_zero (fun i hi => by rw [h i hi, wd_zero])

/-- The next subset, on lists. -/
def aboveL (r : List Int) (n : Int) : List Int := r.filter (fun x => decide (x > n))
def nextL (r within : List Int) : List Int → Option (List Int)
  | [] => none
  | n :: ns => if n ∈ r then nextL r within ns else if minusL (aboveL r n) within = [] then some (n :: aboveL r n) else nextL r within ns
def belS (n : Nat) : Nat := 2 ^ n - 1
theorem tb_bel (n i : Nat) : (belS n).testBit i = decide (i < n) := Nat.testBit_two_pow_sub_one n i
theorem tb_above (r n i : Nat) : (minS r (belS (n + 1))).testBit i = (r.testBit i && decide (n < i)) := by
  rw [tb_minS, tb_bel]
  by_cases h : i < n + 1
  · rw [decide_eq_true h, decide_eq_false (by omega)]; rfl
  · rw [decide_eq_false h, decide_eq_true (by omega)]; rfl
theorem els_above (r n : Nat) : els (minS r (belS (n + 1))) = aboveL (els r) n := by
  refine Asc.ext (asc_els _) (asc_filter _ (asc_els _)) (fun z => ?_)
  unfold aboveL
  rw [List.mem_filter, mem_els, mem_els]
  constructor
  · rintro ⟨m, h1, h2, rfl⟩
    rw [tb_above, Bool.and_eq_true, decide_eq_true_eq] at h2
    exact ⟨⟨m, h1, h2.1, rfl⟩, decide_eq_true (by omega)⟩
  · rintro ⟨⟨m, h1, h2, rfl⟩, h3⟩
    have := of_decide_eq_true h3
    exact ⟨m, h1, by rw [tb_above, h2, decide_eq_true (by omega)]; rfl, rfl⟩
theorem lst_above (r n : Nat) : Lst (minS r (belS (n + 1)) ||| 2 ^ n) n := by
  refine ⟨?_, fun j hj => ?_⟩
  · rw [Nat.testBit_or, tb_pow, decide_eq_true rfl, Bool.or_true]
  · rw [Nat.testBit_or, tb_pow, tb_above, decide_eq_false (show ¬ n < j by omega), decide_eq_false (show ¬ n = j by omega), Bool.and_false]; rfl
theorem min_above (r n : Nat) : minS (minS r (belS (n + 1)) ||| 2 ^ n) (2 ^ n) = minS r (belS (n + 1)) := by
  refine Nat.eq_of_testBit_eq (fun i => ?_)
  rw [tb_minS, Nat.testBit_or, tb_pow, tb_above]
  by_cases e : n = i
  · rw [decide_eq_true e, decide_eq_false (by omega)]; simp
  · rw [decide_eq_false e]; simp
theorem ins_above (r n : Nat) (hn : n < 1024) : els (minS r (belS (n + 1)) ||| 2 ^ n) = (n : Int) :: aboveL (els r) n := by
  rw [els_cons hn (lst_above r n), min_above, els_above]
theorem within_nil {S T : Nat} (hS : SetOk S) (hT : SetOk T) : minusL (els S) (els T) = [] ↔ minS S T = 0 := by
  rw [← els_minS]
  constructor
  · intro h
    refine els_inj (ok_min hS) ok_zero (by rw [h, els_zero])
  · intro h; rw [h, els_zero]
end Go.Bs

set_option linter.unusedSimpArgs false
set_option linter.unusedVariables false
namespace Go.Bs

/-- All subsets in order; the list is read from its front, as the reference does. -/
def subsF (out : List (List Int)) : List Int → List (List Int)
  | [] => out
  | x :: xs => subsF (out ++ out.map (fun u => u ++ [x])) xs
def subsL (r : List Int) : List (List Int) := subsF [[]] r
theorem subsF_snoc : ∀ (r : List Int) (out : List (List Int)) (x : Int), subsF out (r ++ [x]) = subsF out r ++ (subsF out r).map (fun u => u ++ [x])
  | [], _, _ => rfl
  | y :: ys, out, x => by
    show subsF (out ++ out.map (fun u => u ++ [y])) (ys ++ [x]) = _
    rw [subsF_snoc ys]; rfl
theorem subsL_snoc (r : List Int) (x : Int) : subsL (r ++ [x]) = subsL r ++ (subsL r).map (fun u => u ++ [x]) := subsF_snoc r _ x
theorem subsL_nil : subsL [] = [[]] := rfl
/-- Induction over lists from the end. -/
theorem snoc_ind {P : List Int → Prop} (h0 : P []) (h1 : ∀ l x, P l → P (l ++ [x])) : ∀ l, P l := by
  intro l
  rw [← List.reverse_reverse l]
  induction l.reverse with
  | nil => exact h0
  | cons x xs ih => rw [List.reverse_cons]; exact h1 _ _ ih
theorem subsL_mem : ∀ (l : List Int) u, u ∈ subsL l → ∀ z ∈ u, z ∈ l := by
  refine snoc_ind ?_ ?_
  · intro u hu z hz
    rw [subsL_nil, List.mem_singleton] at hu; subst hu; cases hz
  · intro l x ih u hu z hz
    rw [subsL_snoc, List.mem_append, List.mem_map] at hu
    rcases hu with hu | ⟨v, hv, rfl⟩
    · exact List.mem_append_left _ (ih u hu z hz)
    · rcases List.mem_append.1 hz with hz | hz
      · exact List.mem_append_left _ (ih v hv z hz)
      · exact List.mem_append_right _ hz
theorem subsL_asc : ∀ (l : List Int), Asc l → ∀ u ∈ subsL l, Asc u := by
  refine snoc_ind ?_ ?_
  · intro _ u hu
    rw [subsL_nil, List.mem_singleton] at hu; subst hu; exact List.Pairwise.nil
  · intro l x ih ha u hu
    have ha' := List.pairwise_append.1 ha
    rw [subsL_snoc, List.mem_append, List.mem_map] at hu
    rcases hu with hu | ⟨v, hv, rfl⟩
    · exact ih ha'.1 u hu
    · refine List.pairwise_append.2 ⟨ih ha'.1 v hv, List.pairwise_singleton .., fun a h1 b h2 => ?_⟩
      exact ha'.2.2 a (subsL_mem _ _ hv _ h1) b h2
theorem subsL_length : ∀ l : List Int, (subsL l).length = 2 ^ l.length := by
  refine snoc_ind rfl ?_
  intro l x ih
  rw [subsL_snoc, List.length_append, List.length_map, ih, List.length_append, List.length_singleton, Nat.pow_succ]; omega
theorem subsL_first (l : List Int) : (subsL l)[0]? = some [] := by
  revert l
  refine snoc_ind rfl ?_
  intro l x ih
  have : 0 < (subsL l).length := by rw [subsL_length]; exact Nat.pow_pos (by decide)
  rw [subsL_snoc, List.getElem?_append_left this, ih]
theorem subsL_last (l : List Int) : (subsL l)[2 ^ l.length - 1]? = some l := by
  revert l
  refine snoc_ind rfl ?_
  intro l x ih
  have h1 := subsL_length l
  have h2 : 0 < 2 ^ l.length := Nat.pow_pos (by decide)
  rw [subsL_snoc, List.length_append, List.length_singleton, Nat.pow_succ, List.getElem?_append_right (by omega), List.getElem?_map, h1, show 2 ^ l.length * 2 - 1 - 2 ^ l.length = 2 ^ l.length - 1 by omega, ih]
  rfl
theorem minus_nil {a b : List Int} : minusL a b = [] ↔ ∀ z ∈ a, z ∈ b := by
  unfold minusL
  rw [List.filter_eq_nil_iff]
  constructor
  · intro h z hz
    have := h z hz
    rw [decide_eq_true_eq, Classical.not_not] at this
    exact this
  · intro h z hz
    rw [decide_eq_true_eq, Classical.not_not]; exact h z hz
/-- If nothing beyond the greater set is in the smaller one, the test of the rest is idle. -/
def nxt (r : List Int) : List Int → Option (List Int)
  | [] => none
  | n :: ns => if n ∈ r then nxt r ns else some (n :: aboveL r n)
theorem next_nxt {r within : List Int} (h : ∀ z ∈ r, z ∈ within) : ∀ l, nextL r within l = nxt r l
  | [] => rfl
  | n :: ns => by
    unfold nextL nxt
    by_cases h1 : n ∈ r
    · rw [if_pos h1, if_pos h1, next_nxt h ns]
    · rw [if_neg h1, if_neg h1, if_pos (minus_nil.2 (fun z (hz : z ∈ aboveL r n) => h z (List.mem_filter.1 hz).1))]
theorem nxt_append (r : List Int) : ∀ a b, nxt r (a ++ b) = (nxt r a).or (nxt r b)
  | [], b => rfl
  | x :: a, b => by
    show (if x ∈ r then nxt r (a ++ b) else _) = (if x ∈ r then nxt r a else _).or (nxt r b)
    by_cases h : x ∈ r
    · rw [if_pos h, if_pos h, nxt_append r a b]
    · rw [if_neg h, if_neg h]; rfl
theorem above_snoc (u : List Int) (x n : Int) (h : n < x) : aboveL (u ++ [x]) n = aboveL u n ++ [x] := by
  unfold aboveL
  rw [List.filter_append]; congr 1; exact List.filter_cons_of_pos (decide_eq_true h)
theorem nxt_snoc (u : List Int) (x : Int) : ∀ l : List Int, (∀ z ∈ l, z < x) → nxt (u ++ [x]) l = (nxt u l).map (fun v => v ++ [x])
  | [], _ => rfl
  | n :: ns, h => by
    have h1 := h n (List.mem_cons_self ..)
    unfold nxt
    by_cases hc : n ∈ u
    · rw [if_pos hc, if_pos (List.mem_append_left _ hc), nxt_snoc u x ns (fun z hz => h z (List.mem_cons_of_mem _ hz))]
    · rw [if_neg hc, if_neg (fun e => by
        rcases List.mem_append.1 e with e | e
        · exact hc e
        · rw [List.mem_singleton] at e; omega), above_snoc u x n h1]; rfl
theorem nxt_all (l : List Int) : ∀ m : List Int, (∀ z ∈ m, z ∈ l) → nxt l m = none
  | [], _ => rfl
  | n :: ns, h => by
    unfold nxt
    rw [if_pos (h n (List.mem_cons_self ..))]
    exact nxt_all l ns (fun z hz => h z (List.mem_cons_of_mem _ hz))
/-- What follows a subset is the next one. -/
theorem nxt_subs : ∀ (l : List Int), Asc l → ∀ k u, (subsL l)[k]? = some u → nxt u l = (subsL l)[k + 1]? := by
  refine snoc_ind ?_ ?_
  · intro _ k u h
    rw [subsL_nil] at h ⊢
    cases k with
    | zero => rfl
    | succ k => rfl
  · intro l x ih ha k u h
    have ha' := List.pairwise_append.1 ha
    have hx : ∀ z ∈ l, z < x := fun z hz => ha'.2.2 z hz x (List.mem_singleton.2 rfl)
    have hlen := subsL_length l
    have hpos : 0 < 2 ^ l.length := Nat.pow_pos (by decide)
    rw [subsL_snoc] at h ⊢
    rw [nxt_append]
    rcases Nat.lt_or_ge k (subsL l).length with hk | hk
    · rw [List.getElem?_append_left hk] at h
      have h2 := ih ha'.1 k u h
      have hsub := subsL_mem l u (List.mem_of_getElem? h)
      rw [h2]
      by_cases hk2 : k + 1 < (subsL l).length
      · rw [List.getElem?_append_left hk2, List.getElem?_eq_getElem hk2]; rfl
      · have hke : k + 1 = (subsL l).length := by omega
        rw [List.getElem?_eq_none (by omega), List.getElem?_append_right (by omega), hke, Nat.sub_self, List.getElem?_map, subsL_first]
        have hul : u = l := by
          have h3 := subsL_last l
          rw [← hlen, ← hke, Nat.add_sub_cancel, h] at h3
          exact Option.some.inj h3
        subst hul
        have hxu : ¬ x ∈ u := fun e => by have := hx x e; omega
        show nxt u [x] = _
        unfold nxt
        rw [if_neg hxu]
        have : aboveL u x = [] := by
          unfold aboveL
          rw [List.filter_eq_nil_iff]
          intro z hz
          have := hx z hz
          rw [decide_eq_true_eq]; omega
        rw [this]; rfl
    · rw [List.getElem?_append_right hk, List.getElem?_map] at h
      obtain ⟨v, hv, rfl⟩ := Option.map_eq_some_iff.1 h
      rw [List.getElem?_append_right (by omega), List.getElem?_map, show k + 1 - (subsL l).length = k - (subsL l).length + 1 by omega, ← ih ha'.1 _ v hv, nxt_snoc v x l hx]
      have : nxt (v ++ [x]) [x] = none := by
        unfold nxt
        rw [if_pos (List.mem_append_right _ (List.mem_singleton.2 rfl))]; rfl
      rw [this, Option.or_none]

/-- The set of a list. -/
def fromF (s : Nat) (x : Int) : Nat := if 0 ≤ x ∧ x < 1024 then s ||| 2 ^ x.toNat else s
def fromL (l : List Int) : Nat := l.foldl fromF 0
theorem tb_fromF (s : Nat) (x : Int) (n : Nat) : (fromF s x).testBit n = (s.testBit n || (decide (n < 1024) && decide ((n : Int) = x))) := by
  unfold fromF
  by_cases h : 0 ≤ x ∧ x < 1024
  · rw [if_pos h, Nat.testBit_or, tb_pow]
    congr 1
    by_cases e : x.toNat = n
    · rw [decide_eq_true e, decide_eq_true (show n < 1024 by omega), decide_eq_true (show (n : Int) = x by omega)]; rfl
    · rw [decide_eq_false e, decide_eq_false (show ¬ (n : Int) = x by omega), Bool.and_false]
  · rw [if_neg h]
    by_cases e : (n : Int) = x
    · rw [decide_eq_false (show ¬ n < 1024 by omega), Bool.false_and, Bool.or_false]
    · rw [decide_eq_false e, Bool.and_false, Bool.or_false]
theorem tb_foldF (n : Nat) : ∀ (l : List Int) (s : Nat), (l.foldl fromF s).testBit n = (s.testBit n || (decide (n < 1024) && decide ((n : Int) ∈ l)))
  | [], s => by simp
  | x :: l, s => by
    rw [List.foldl_cons, tb_foldF n l, tb_fromF, Bool.or_assoc, ← Bool.and_or_distrib_left]
    congr 2
    rw [← Bool.decide_or]
    exact decide_eq_decide.2 (by rw [List.mem_cons])
theorem tb_fromL (l : List Int) (n : Nat) : (fromL l).testBit n = (decide (n < 1024) && decide ((n : Int) ∈ l)) := by
  unfold fromL; rw [tb_foldF, Nat.zero_testBit, Bool.false_or]
theorem ok_fromL (l : List Int) : SetOk (fromL l) := fun n hn => by rw [tb_fromL, decide_eq_false (by omega)]; rfl
theorem from_els {S : Nat} (hS : SetOk S) : fromL (els S) = S := by
  refine Nat.eq_of_testBit_eq (fun n => ?_)
  rw [tb_fromL]
  by_cases hn : n < 1024
  · rw [decide_eq_true hn, Bool.true_and]
    cases hb : S.testBit n with
    | true => exact decide_eq_true (mem_els'.2 ⟨hn, hb⟩)
    | false => refine decide_eq_false (fun h => ?_); rw [(mem_els'.1 h).2] at hb; cases hb
  · rw [decide_eq_false hn, hS n (by omega)]; rfl
theorem els_from {l : List Int} (ha : Asc l) (h : ∀ z ∈ l, 0 ≤ z ∧ z < 1024) : els (fromL l) = l := by
  refine Asc.ext (asc_els _) ha (fun z => ?_)
  rw [mem_els]
  constructor
  · rintro ⟨n, h1, h2, rfl⟩
    rw [tb_fromL, Bool.and_eq_true, decide_eq_true_eq, decide_eq_true_eq] at h2
    exact h2.2
  · intro hz
    obtain ⟨h1, h2⟩ := h z hz
    refine ⟨z.toNat, by omega, ?_, by omega⟩
    rw [tb_fromL, decide_eq_true (by omega), decide_eq_true (by rw [Int.toNat_of_nonneg h1]; exact hz)]; rfl
theorem els_range {S : Nat} {z : Int} (h : z ∈ els S) : 0 ≤ z ∧ z < 1024 := by
  obtain ⟨n, h1, _, rfl⟩ := mem_els.1 h
  omega

/-- The next subset, on sets, over the elements that are left. -/
def nextP (r w : Nat) : List Int → Option Nat
  | [] => none
  | n :: ns => if r.testBit n.toNat = false ∧ minS (minS r (belS (n.toNat + 1))) w = 0 then some (minS r (belS (n.toNat + 1)) ||| 2 ^ n.toNat) else nextP r w ns
theorem next_els {r w : Nat} (hr : SetOk r) (hw : SetOk w) : ∀ l : List Int, (∀ z ∈ l, 0 ≤ z ∧ z < 1024) → (nextP r w l).map els = nextL (els r) (els w) l
  | [], _ => rfl
  | n :: ns, h => by
    obtain ⟨h1, h2⟩ := h n (List.mem_cons_self ..)
    have ih := next_els hr hw ns (fun z hz => h z (List.mem_cons_of_mem _ hz))
    obtain ⟨k, rfl⟩ : ∃ k : Nat, n = k := ⟨n.toNat, by omega⟩
    unfold nextP nextL
    rw [Int.toNat_natCast]
    by_cases hm : (k : Int) ∈ els r
    · rw [if_pos hm, if_neg (fun e => by rw [(mem_els'.1 hm).2] at e; cases e.1)]; exact ih
    · have hb : r.testBit k = false := by
        cases hb : r.testBit k with
        | false => rfl
        | true => exact absurd (mem_els'.2 ⟨by omega, hb⟩) hm
      rw [if_neg hm, ← els_above]
      by_cases hc : minS (minS r (belS (k + 1))) w = 0
      · rw [if_pos ⟨hb, hc⟩, if_pos ((within_nil (ok_min hr) hw).2 hc), Option.map_some, ins_above r k (by omega), els_above]
      · rw [if_neg (fun e => hc e.2), if_neg (fun e => hc ((within_nil (ok_min hr) hw).1 e))]; exact ih
theorem above_above (r : Nat) {a b : Nat} (h : a ≤ b) : minS (minS r (belS a)) (belS b) = minS r (belS b) := by
  refine Nat.eq_of_testBit_eq (fun i => ?_)
  rw [tb_minS, tb_minS, tb_minS, tb_bel, tb_bel]
  by_cases hi : i < b
  · rw [decide_eq_true hi]; simp
  · rw [decide_eq_false hi, decide_eq_false (by omega)]; simp
theorem above_zero (r : Nat) : minS r (belS 0) = r := by
  refine Nat.eq_of_testBit_eq (fun i => ?_)
  rw [tb_minS, tb_bel]; simp
/-- A subset of an ascending list, as a set. -/
theorem subs_fine {R : Nat} {u : List Int} (h : u ∈ subsL (els R)) : Asc u ∧ (∀ z ∈ u, 0 ≤ z ∧ z < 1024) ∧ (∀ z ∈ u, z ∈ els R) :=
  ⟨subsL_asc _ (asc_els R) u h, fun z hz => els_range (subsL_mem _ u h z hz), subsL_mem _ u h⟩
theorem next_sub {R : Nat} (hR : SetOk R) {k : Nat} {u : List Int} (h : (subsL (els R))[k]? = some u) : (nextP (fromL u) R (els R)).map els = (subsL (els R))[k + 1]? := by
  obtain ⟨h1, h2, h3⟩ := subs_fine (List.mem_of_getElem? h)
  rw [next_els (ok_fromL u) hR _ (fun z hz => els_range hz), els_from h1 h2, next_nxt h3, nxt_subs _ (asc_els R) k u h]
theorem ok_next {r w : Nat} (hr : SetOk r) : ∀ {l : List Int} {s : Nat}, (∀ z ∈ l, 0 ≤ z ∧ z < 1024) → nextP r w l = some s → SetOk s
  | [], s, _, h => by cases h
  | n :: ns, s, hl, h => by
    unfold nextP at h
    split at h
    · cases h
      have := hl n (List.mem_cons_self ..)
      intro m hm
      rw [Nat.testBit_or, tb_pow, ok_min hr m hm, decide_eq_false (by omega)]; rfl
    · exact ok_next hr (fun z hz => hl z (List.mem_cons_of_mem _ hz)) h
end Go.Bs
