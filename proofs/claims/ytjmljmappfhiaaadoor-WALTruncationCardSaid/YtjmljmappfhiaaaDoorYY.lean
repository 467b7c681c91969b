/- Contracts over data: the log. No condition. -/
import Derived.Test.YtjmljmappfhiaaaDoorYG

set_option linter.unusedSimpArgs false
set_option linter.unusedVariables false
set_option maxHeartbeats 1000000
set_option maxRecDepth 8000
namespace Go.Proofs.YtjmljmappfhiaaaDoor
open Go Go.RowKit Go.PP Go.Dm

theorem new_d : DFun Tryd.prog 12 [] (.ptr [.flat (.slice none 0 0)] 0) := by
  refine DFun.enterA Tryd.func12 Tryd.ntmps12 ?_
  refine DW.walk ?_
  exact ⟨.inr rfl, ResOk.one [(2, some (.box [.flat (.slice none 0 0)]))] rfl rfl ⟨rfl, trivial⟩ (Vw.ref (.head _) (VwL.pers rfl) (by intro h; cases h))⟩
/-- A log of one's own that is lent: its box and its row. -/
def logB (l : List (Bs × Bs)) : Sg := [(429496729600001, some (.box [.own 429496729600002 l.length])), (429496729600002, some (.row 29 2 l.length (entsC l)))]
theorem err_ok {e : Bs × Bs} (h : errE e = 0) : e.1.length ≤ 32 ∧ e.2.length ≤ 65536 ∧ nameOk e.1 = true := by
  unfold errE at h
  cases hn : nameOk e.1 with
  | false => rw [hn, if_pos rfl] at h; cases h
  | true =>
    rw [hn, if_neg (by decide)] at h
    refine ⟨?_, ?_, rfl⟩
    · unfold nameOk at hn
      simp at hn
      omega
    · split at h
      · cases h
      · omega
theorem append_ok (l : List (Bs × Bs)) (hl : l.length < 65536) (e : Bs × Bs) (h : errE e = 0) : DLend Tryd.prog 13 [.ref 429496729600001 0, entD e] (logB l) (logB (l ++ [e])) (.tup [bytesD (encW e), .flat (.int .i64 0)]) := by
  obtain ⟨h1, h2, _⟩ := err_ok h
  have hc := check_d e (by omega) (by omega)
  have hb := bytes_d e h1 h2
  rw [h] at hc
  have hrow : entsC l ++ [strD e.1, strD e.2] = entsC (l ++ [e]) := by simp [entsC, entC]
  have hpe := entsC_pers (l ++ [e])
  have hlen : (l ++ [e]).length = l.length + 1 := by simp
  unfold logB
  rw [hlen]
  obtain ⟨a, b⟩ := e
  refine DLend.enterA Tryd.func13 Tryd.ntmps13 ?_
  refine DW.walk ?_
  exact ⟨.inr rfl, ResL.twoA⟩
theorem append_err (l : List (Bs × Bs)) (hl : l.length < 65536) (e : Bs × Bs) (h1 : e.1.length ≤ 281474976710656) (h2 : e.2.length ≤ 281474976710656) (h : errE e ≠ 0) : DLend Tryd.prog 13 [.ref 429496729600001 0, entD e] (logB l) (logB l) (.tup [.flat (.slice none 0 0), .flat (.int .i64 (errE e))]) := by
  have hc := check_d e h1 h2
  generalize hx : errE e = x at hc h ⊢
  have hpe := entsC_pers l
  unfold logB
  obtain ⟨a, b⟩ := e
  refine DLend.enterA Tryd.func13 Tryd.ntmps13 ?_
  refine DW.walk ?_
  exact ⟨.inr rfl, ResL.twoA⟩
end Go.Proofs.YtjmljmappfhiaaaDoor

set_option linter.unusedSimpArgs false
set_option linter.unusedVariables false
set_option maxHeartbeats 1000000
set_option maxRecDepth 8000
namespace Go.Proofs.YtjmljmappfhiaaaDoor
open Go Go.RowKit Go.PP Go.Dm

theorem split_at {α : Type} (c : α) : ∀ {l m x y : List α}, l ++ c :: x = m ++ c :: y → c ∉ l → c ∉ m → l = m ∧ x = y
  | [], [], x, y, h, _, _ => ⟨rfl, by simpa using h⟩
  | [], b :: m, x, y, h, _, hm => by
    simp only [List.nil_append, List.cons_append, List.cons.injEq] at h
    exact absurd (h.1 ▸ List.mem_cons_self) hm
  | a :: l, [], x, y, h, hl, _ => by
    simp only [List.nil_append, List.cons_append, List.cons.injEq] at h
    exact absurd (h.1 ▸ List.mem_cons_self) hl
  | a :: l, b :: m, x, y, h, hl, hm => by
    simp only [List.cons_append, List.cons.injEq] at h
    obtain ⟨rfl, h⟩ := h
    obtain ⟨h1, h2⟩ := split_at c h (fun h => hl (List.mem_cons_of_mem _ h)) (fun h => hm (List.mem_cons_of_mem _ h))
    exact ⟨by rw [h1], h2⟩
theorem name_char {l : Bs} (h : nameOk l = true) : ∀ c ∈ l, charOk c = true := by
  unfold nameOk at h
  rw [Bool.and_eq_true] at h
  exact List.all_eq_true.1 h.1
theorem name_nospace {l : Bs} (h : nameOk l = true) : (32 : UInt8) ∉ l := fun hm => by
  have := name_char h 32 hm
  revert this; decide
/-- A digit of base 10. -/
def digC (c : UInt8) : Bool := decide (48 ≤ c.toNat) && decide (c.toNat ≤ 57)
theorem sign_dig {x : Nat} (h : x < 10) : digC (signs.getD x 0) = true ∧ (signs.getD x 0).toNat = 48 + x := by
  match x, h with
  | 0, _ | 1, _ | 2, _ | 3, _ | 4, _ | 5, _ | 6, _ | 7, _ | 8, _ | 9, _ => exact ⟨by decide, by decide⟩
  | x + 10, h => omega
theorem digs_dig : ∀ (n : Nat), ∀ c ∈ digs 10 n, digC c = true := by
  intro n
  induction n using Nat.strongRecOn with
  | _ n ih =>
    intro c hc
    rw [digs_eq 10 (by omega)] at hc
    rcases List.mem_append.1 hc with hc | hc
    · by_cases hn : n < 10
      · rw [if_pos hn] at hc; simp at hc
      · rw [if_neg hn] at hc; exact ih (n / 10) (by omega) c hc
    · simp only [List.mem_singleton] at hc
      subst hc
      exact (sign_dig (Nat.mod_lt _ (by omega))).1
/-- The number that digits say. -/
def valD (l : Bs) : Nat := l.foldl (fun n c => 10 * n + (c.toNat - 48)) 0
theorem valD_snoc (l : Bs) (c : UInt8) : valD (l ++ [c]) = 10 * valD l + (c.toNat - 48) := by simp [valD]
theorem valD_digs : ∀ n : Nat, valD (digs 10 n) = n := by
  intro n
  induction n using Nat.strongRecOn with
  | _ n ih =>
    rw [digs_eq 10 (by omega), valD_snoc, (sign_dig (Nat.mod_lt n (show 0 < 10 by omega))).2]
    by_cases hn : n < 10
    · rw [if_pos hn, Nat.mod_eq_of_lt hn]; simp [valD]
    · rw [if_neg hn, ih (n / 10) (by omega)]; omega
theorem dec_inj {a b : Nat} (h : digs 10 a = digs 10 b) : a = b := by rw [← valD_digs a, ← valD_digs b, h]
theorem digs_nospace (n : Nat) : (32 : UInt8) ∉ digs 10 n := fun h => by
  have := digs_dig n 32 h
  revert this; decide
/-- The head of an encoding: all ahead of the data. -/
def headE (e : Bs × Bs) : Bs := e.1 ++ 32 :: (digs 10 e.2.length ++ 32 :: (nibs (sumB (e.1 ++ [10] ++ e.2)).toNat 8 ++ [10]))
theorem encW_head (e : Bs × Bs) : encW e = headE e ++ e.2 ++ [10] := by
  unfold encW headE
  rw [dec_digs]
  simp
theorem headE_len (e : Bs × Bs) : (headE e).length = e.1.length + 1 + (digs 10 e.2.length).length + 1 + 8 + 1 := by
  unfold headE
  simp [nibs_len]; omega
theorem encW_length (e : Bs × Bs) : (encW e).length = (headE e).length + e.2.length + 1 := by
  rw [encW_head]; simp; omega
/-- What two valid entries share whose encodings begin one text. -/
theorem enc_prefix {e f : Bs × Bs} {r s : Bs} (he : nameOk e.1 = true) (hf : nameOk f.1 = true) (h : encW e ++ r = encW f ++ s) : e = f ∧ r = s := by
  rw [encW_head, encW_head] at h
  unfold headE at h
  simp only [List.append_assoc, List.cons_append] at h
  obtain ⟨h1, h⟩ := split_at 32 h (name_nospace he) (name_nospace hf)
  obtain ⟨h2, h⟩ := split_at 32 h (digs_nospace _) (digs_nospace _)
  have h2 := dec_inj h2
  obtain ⟨_, h⟩ := List.append_inj h (by rw [nibs_len, nibs_len])
  simp only [List.nil_append, List.cons.injEq, true_and, List.singleton_append] at h
  obtain ⟨h3, h⟩ := List.append_inj h h2
  simp only [List.nil_append, List.cons.injEq, true_and] at h
  exact ⟨Prod.ext h1 h3, h⟩
/-- The valid entry whose encoding a text begins with. -/
def Reads (b : Bs) (e : Bs × Bs) : Prop := errE e = 0 ∧ encW e <+: b
theorem Reads.uniq {b : Bs} {e f : Bs × Bs} (h : Reads b e) (k : Reads b f) : e = f := by
  obtain ⟨r, h1⟩ := h.2
  obtain ⟨s, h2⟩ := k.2
  exact (enc_prefix (err_ok h.1).2.2 (err_ok k.1).2.2 (h1.trans h2.symm)).1

/-! one changed byte -/
theorem mul_inj {a b : BitVec 32} (h : a * BitVec.ofInt 32 16777619 = b * BitVec.ofInt 32 16777619) : a = b := by
  have hi : BitVec.ofInt 32 16777619 * 899433627#32 = 1#32 := by decide
  have := congrArg (· * 899433627#32) h
  simpa only [BitVec.mul_assoc, hi, BitVec.mul_one] using this
theorem xor_injL {a b c : BitVec 32} (h : a ^^^ c = b ^^^ c) : a = b := by
  have := congrArg (· ^^^ c) h
  simpa only [BitVec.xor_assoc, BitVec.xor_self, BitVec.xor_zero] using this
theorem xor_injR {a b c : BitVec 32} (h : c ^^^ a = c ^^^ b) : a = b := by
  rw [BitVec.xor_comm c a, BitVec.xor_comm c b] at h
  exact xor_injL h
theorem byte_inj {c d : UInt8} (h : BitVec.ofInt 32 (c.toNat : Int) = BitVec.ofInt 32 (d.toNat : Int)) : c = d := by
  have h1 : BitVec.ofNat 32 c.toNat = BitVec.ofNat 32 d.toNat := by simpa using h
  have := congrArg BitVec.toNat h1
  simp only [BitVec.toNat_ofNat] at this
  have hc := c.toNat_lt
  have hd := d.toNat_lt
  rw [Nat.mod_eq_of_lt (by omega), Nat.mod_eq_of_lt (by omega)] at this
  exact UInt8.toNat_inj.1 this
theorem step_injL {a b : BitVec 32} {c : UInt8} (h : sumStep a c = sumStep b c) : a = b := xor_injL (mul_inj h)
theorem step_injR {a : BitVec 32} {c d : UInt8} (h : sumStep a c = sumStep a d) : c = d := byte_inj (xor_injR (mul_inj h))
theorem fold_inj : ∀ {l : Bs} {a b : BitVec 32}, l.foldl sumStep a = l.foldl sumStep b → a = b
  | [], a, b, h => h
  | c :: l, a, b, h => step_injL (fold_inj (l := l) h)
theorem sum_byte {x y : Bs} {c d : UInt8} (h : sumB (x ++ c :: y) = sumB (x ++ d :: y)) : c = d := by
  unfold sumB at h
  simp only [List.foldl_append, List.foldl_cons] at h
  exact step_injR (fold_inj h)
/-- Eight digits of base 16 tell a checksum. -/
theorem nibs_inj {s t : Nat} (hs : s < 2 ^ 32) (ht : t < 2 ^ 32) (h : nibs s 8 = nibs t 8) : s = t := by
  have sg0 : ∀ a, a < 16 → ∀ b, b < 16 → signs.getD a 0 = signs.getD b 0 → a = b := by decide
  have sg : ∀ {a b : Nat}, a < 16 → b < 16 → signs.getD a 0 = signs.getD b 0 → a = b := fun ha hb => sg0 _ ha _ hb
  have key : ∀ i, i < 8 → s / 2 ^ (4 * (7 - i)) % 16 = t / 2 ^ (4 * (7 - i)) % 16 := fun i hi => by
    have := congrArg (fun l => l[i]?) h
    simp only [nibs, List.getElem?_map, List.getElem?_range hi, Option.map_some, Option.some.injEq] at this
    exact sg (Nat.mod_lt _ (by omega)) (Nat.mod_lt _ (by omega)) this
  have k0 := key 0 (by omega); have k1 := key 1 (by omega); have k2 := key 2 (by omega); have k3 := key 3 (by omega)
  have k4 := key 4 (by omega); have k5 := key 5 (by omega); have k6 := key 6 (by omega); have k7 := key 7 (by omega)
  simp only [Nat.reduceMul, Nat.reduceSub, Nat.reducePow] at k0 k1 k2 k3 k4 k5 k6 k7
  omega
/-- Data with one byte changed: nothing valid begins the text. -/
theorem corrupt {e : Bs × Bs} {x y r : Bs} {c d : UInt8} (he : nameOk e.1 = true) (hx : e.2 = x ++ c :: y) (hcd : c ≠ d) (f : Bs × Bs) : ¬ Reads (headE e ++ (x ++ d :: y) ++ [10] ++ r) f := fun ⟨hf, s, hs⟩ => by
  have hn := (err_ok hf).2.2
  rw [encW_head] at hs
  unfold headE at hs
  simp only [List.append_assoc, List.cons_append] at hs
  obtain ⟨h1, h⟩ := split_at 32 hs (name_nospace hn) (name_nospace he)
  obtain ⟨h2, h⟩ := split_at 32 h (digs_nospace _) (digs_nospace _)
  have h2 := dec_inj h2
  obtain ⟨h4, h⟩ := List.append_inj h (by rw [nibs_len, nibs_len])
  have h4 := nibs_inj (BitVec.isLt _) (BitVec.isLt _) h4
  simp only [List.nil_append, List.cons.injEq, true_and, List.singleton_append] at h
  have h' : f.2 ++ ([10] ++ s) = (x ++ d :: y) ++ ([10] ++ r) := by simpa using h
  obtain ⟨h3, _⟩ := List.append_inj h' (by rw [h2, hx]; simp)
  rw [h3, h1, hx] at h4
  have h5 := BitVec.eq_of_toNat_eq h4
  have h6 : sumB ((e.1 ++ [10] ++ x) ++ d :: y) = sumB ((e.1 ++ [10] ++ x) ++ c :: y) := by simpa using h5
  exact hcd (sum_byte h6).symm
end Go.Proofs.YtjmljmappfhiaaaDoor

set_option linter.unusedSimpArgs false
set_option linter.unusedVariables false
set_option maxHeartbeats 1000000
set_option maxRecDepth 8000
namespace Go.Proofs.YtjmljmappfhiaaaDoor
open Go Go.RowKit Go.PP Go.Dm

/-- How many bytes of this kind begin a text. -/
def run (p : UInt8 → Bool) (b : Bs) : Nat := (b.takeWhile p).length
theorem run_le (p : UInt8 → Bool) (b : Bs) : run p b ≤ b.length := by
  unfold run
  induction b with
  | nil => simp
  | cons c b ih => rw [List.takeWhile_cons]; split <;> simp; omega
theorem run_at {p : UInt8 → Bool} : ∀ {b : Bs} {i : Nat}, i < run p b → ∃ c, b[i]? = some c ∧ p c = true
  | [], i, h => by simp [run] at h
  | c :: b, i, h => by
    unfold run at h
    rw [List.takeWhile_cons] at h
    by_cases hp : p c = true
    · rw [if_pos hp] at h
      cases i with
      | zero => exact ⟨c, rfl, hp⟩
      | succ i => exact run_at (b := b) (i := i) (by simpa [run] using h)
    · rw [if_neg hp] at h; simp at h
theorem run_end {p : UInt8 → Bool} : ∀ {b : Bs}, run p b < b.length → ∃ c, b[run p b]? = some c ∧ p c = false
  | [], h => by simp at h
  | c :: b, h => by
    unfold run at h ⊢
    rw [List.takeWhile_cons] at h ⊢
    by_cases hp : p c = true
    · rw [if_pos hp] at h ⊢
      obtain ⟨d, h1, h2⟩ := run_end (p := p) (b := b) (by simpa [run] using h)
      exact ⟨d, by simpa [run] using h1, h2⟩
    · rw [if_neg hp] at h ⊢
      exact ⟨c, rfl, by simpa using hp⟩
theorem run_app {p : UInt8 → Bool} {l r : Bs} {c : UInt8} (hl : ∀ x ∈ l, p x = true) (hc : p c = false) : run p (l ++ c :: r) = l.length := by
  unfold run
  induction l with
  | nil => simp [List.takeWhile_cons, hc]
  | cons a l ih =>
    rw [List.cons_append, List.takeWhile_cons, if_pos (hl a (List.mem_cons_self ..))]
    simp [ih (fun x hx => hl x (List.mem_cons_of_mem _ hx))]
def noSp (c : UInt8) : Bool := !decide (c = 32)
/-- How far the name goes. -/
abbrev spB (b : Bs) : Nat := run noSp b
/-- What stands behind the name. -/
abbrev restB (b : Bs) : Bs := b.drop (spB b + 1)
abbrev ddB (b : Bs) : Nat := run digC (restB b)
theorem valD_take_le (l : Bs) : ∀ m, valD (l.take m) ≤ valD l := by
  have key : ∀ (x y : Bs), valD x ≤ valD (x ++ y) := fun x y => by
    induction y generalizing x with
    | nil => simp
    | cons c y ih =>
      have := ih (x ++ [c])
      rw [valD_snoc] at this
      rw [List.append_assoc] at this
      exact Nat.le_trans (by omega) this
  intro m
  conv => rhs; rw [← List.take_append_drop m l]
  exact key _ _
/-- The readers' numbers, if a valid entry's encoding begins the text. -/
structure Found (b : Bs) (e : Bs × Bs) : Prop where
  sp : spB b = e.1.length
  name : b.take (spB b) = e.1
  short : e.1.length ≤ 32
  at_sp : b[spB b]? = some 32
  dd : ddB b = (digs 10 e.2.length).length
  digs : (restB b).take (ddB b) = digs 10 e.2.length
  val : valD ((restB b).take (ddB b)) = e.2.length
  small : e.2.length ≤ 65536
  fits : spB b + 1 + ddB b + 10 + e.2.length + 1 ≤ b.length
  len : (encW e).length = spB b + 1 + ddB b + 10 + e.2.length + 1
  data : (b.drop (spB b + 1 + ddB b + 10)).take e.2.length = e.2
  all : b.take (spB b + 1 + ddB b + 10 + e.2.length + 1) = encW e
theorem Reads.found {b : Bs} {e : Bs × Bs} (h : Reads b e) : Found b e := by
  obtain ⟨h1, h2, h3⟩ := err_ok h.1
  obtain ⟨r, hb⟩ := h.2
  have hlen := encW_length e
  have hhl := headE_len e
  have hns := name_nospace h3
  have hb0 : b = headE e ++ e.2 ++ [10] ++ r := by rw [← hb, encW_head]
  have hb1 : b = e.1 ++ 32 :: (digs 10 e.2.length ++ 32 :: ((nibs (sumB (e.1 ++ [10] ++ e.2)).toNat 8 ++ [10]) ++ e.2 ++ [10] ++ r)) := by rw [hb0]; unfold headE; simp
  have hsp : spB b = e.1.length := by
    rw [hb1]
    exact run_app (fun x hx => by unfold noSp; simp; rintro rfl; exact hns hx) (by decide)
  have hrest : restB b = digs 10 e.2.length ++ 32 :: ((nibs (sumB (e.1 ++ [10] ++ e.2)).toNat 8 ++ [10]) ++ e.2 ++ [10] ++ r) := by
    unfold restB
    rw [hsp, hb1, ← List.drop_drop, List.drop_left]
    rfl
  have hdd : ddB b = (digs 10 e.2.length).length := by
    unfold ddB
    rw [hrest]
    exact run_app (digs_dig _) (by decide)
  have hdig : (restB b).take (ddB b) = digs 10 e.2.length := by rw [hdd, hrest, List.take_left']; rfl
  have hbl : b.length = (encW e).length + r.length := by rw [← hb]; simp
  refine ⟨hsp, ?_, h1, ?_, hdd, hdig, by rw [hdig, valD_digs], h2, by omega, by omega, ?_, ?_⟩
  · rw [hsp, hb1, List.take_left']; rfl
  · rw [hsp, hb1]; simp
  · have : spB b + 1 + ddB b + 10 = (headE e).length := by omega
    rw [this, hb0, List.append_assoc, List.append_assoc, List.drop_left, List.take_left']; rfl
  · have : spB b + 1 + ddB b + 10 + e.2.length + 1 = (encW e).length := by omega
    rw [this, ← hb, List.take_left']; rfl
end Go.Proofs.YtjmljmappfhiaaaDoor
