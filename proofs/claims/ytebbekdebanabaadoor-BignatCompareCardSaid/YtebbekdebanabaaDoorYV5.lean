/- Contracts over data: Parse. No condition. -/
import Derived.Test.YtebbekdebanabaaDoorYV3
import Derived.Test.YtebbekdebanabaaDoorYFU
import Derived.Test.YtebbekdebanabaaDoorYNG

set_option linter.unusedSimpArgs false
set_option linter.unusedVariables false
set_option maxHeartbeats 4000000
set_option maxRecDepth 8000
namespace Go.Proofs.YtebbekdebanabaaDoor
open Go Go.RowKit Go.PP Go.Dm Go.Bn
theorem dg_mem (b : UInt8) : ([48, 49, 50, 51, 52, 53, 54, 55, 56, 57] : List UInt8).contains b = isDg b := by
  have key : ∀ n : Nat, n < 256 → (([48, 49, 50, 51, 52, 53, 54, 55, 56, 57] : List UInt8).contains (UInt8.ofNat n)) = isDg (UInt8.ofNat n) := by decide +kernel
  have h := key b.toNat (UInt8.toNat_lt b)
  rwa [UInt8.ofNat_toNat] at h
theorem trims_nil (s : List UInt8) : Lib.trimS s [48, 49, 50, 51, 52, 53, 54, 55, 56, 57] = [] ↔ ∀ b ∈ s, isDg b = true := by
  have e1 : ∀ l : List UInt8, Lib.trimLeftS l [48, 49, 50, 51, 52, 53, 54, 55, 56, 57] = l.dropWhile isDg := fun l => by
    show List.dropWhile _ l = _
    congr 1
    funext b
    exact dg_mem b
  have e2 : Lib.trimRightS s [48, 49, 50, 51, 52, 53, 54, 55, 56, 57] = (s.reverse.dropWhile isDg).reverse := by
    show (List.dropWhile _ _).reverse = _
    congr 2
    funext b
    exact dg_mem b
  have e3 : Lib.trimS s [48, 49, 50, 51, 52, 53, 54, 55, 56, 57] = ((s.reverse.dropWhile isDg).reverse).dropWhile isDg := by
    show Lib.trimLeftS (Lib.trimRightS s _) _ = _
    rw [e1, e2]
  rw [e3]
  have hall : ∀ l : List UInt8, l.dropWhile isDg = [] ↔ ∀ b ∈ l, isDg b = true := fun l => by
    induction l with
    | nil => simp
    | cons x r ih =>
      rw [List.dropWhile_cons]
      by_cases hx : isDg x = true
      · rw [if_pos hx, ih]; simp [hx]
      · rw [if_neg hx]; simp [hx]
  constructor
  · intro h b hb
    have h1 := (hall _).1 h
    rcases List.mem_append.1 (show b ∈ (s.reverse.takeWhile isDg).reverse.reverse ++ (s.reverse.dropWhile isDg) by
      rw [List.reverse_reverse, List.takeWhile_append_dropWhile]; exact List.mem_reverse.2 hb) with h2 | h2
    · rw [List.reverse_reverse] at h2
      exact (List.all_eq_true.1 List.all_takeWhile) b h2
    · exact h1 b (List.mem_reverse.2 h2)
  · intro h
    have : s.reverse.dropWhile isDg = [] := (hall _).2 fun b hb => h b (List.mem_reverse.1 hb)
    rw [this]; rfl
abbrev bysL (l : List UInt8) : List D := bD l
theorem canon_or (s : List UInt8) : Canon s ∨ s = [] ∨ (s ≠ [] ∧ ¬ ∀ b ∈ s, isDg b = true) ∨ (1 < s.length ∧ s.head? = some 48 ∧ ∀ b ∈ s, isDg b = true) := by
  by_cases h1 : s = []
  · exact .inr (.inl h1)
  · by_cases h2 : ∀ b ∈ s, isDg b = true
    · by_cases h3 : 1 < s.length ∧ s.head? = some 48
      · exact .inr (.inr (.inr ⟨h3.1, h3.2, h2⟩))
      · exact .inl ⟨h1, h2, h3⟩
    · exact .inr (.inr (.inl ⟨h1, h2⟩))
theorem parse_bad (s : List UInt8) (hl : s.length ≤ 100000) (h : ¬ Canon s) : DFun Tryd.prog 34 [strD s] (.tup [natD 0, .flat (.int .i64 3)]) := by
  have ht := trims_d s (by omega)
  rw [nat0]
  rcases canon_or s with hc | hc | ⟨hc1, hc2⟩ | ⟨hc1, hc2, hc3⟩
  · exact absurd hc h
  · subst hc
    refine DFun.enterA Tryd.func34 Tryd.ntmps34 ?_
    refine DW.walk ?_
    exact ⟨.inr rfl, ResOk.cellTmpA [] rfl rfl rfl ag25 sz25 rfl trivial (VwL.pers rfl) (Le.agg ⟨Le.nil _ _, trivial⟩) (Vw.pers rfl)⟩
  · have hne : Lib.trimS s [48, 49, 50, 51, 52, 53, 54, 55, 56, 57] ≠ [] := fun e => hc2 ((trims_nil s).1 e)
    generalize Lib.trimS s [48, 49, 50, 51, 52, 53, 54, 55, 56, 57] = z at *
    refine DFun.enterA Tryd.func34 Tryd.ntmps34 ?_
    refine DW.walk ?_
    exact ⟨.inr rfl, ResOk.cellTmpA [] rfl rfl rfl ag25 sz25 rfl trivial (VwL.pers rfl) (Le.agg ⟨Le.nil _ _, trivial⟩) (Vw.pers rfl)⟩
  · have hne : ¬ Lib.trimS s [48, 49, 50, 51, 52, 53, 54, 55, 56, 57] ≠ [] := fun e => e ((trims_nil s).2 hc3)
    generalize Lib.trimS s [48, 49, 50, 51, 52, 53, 54, 55, 56, 57] = z at *
    have hs : s ≠ [] := fun e => by rw [e] at hc1; exact absurd hc1 (by simp)
    have h0 : s[((0 : Int)).toNat]? = some 48 := by rw [← hc2, List.head?_eq_getElem?]; rfl
    refine DFun.enterA Tryd.func34 Tryd.ntmps34 ?_
    refine DW.walk ?_
    exact ⟨.inr rfl, ResOk.cellTmpA [] rfl rfl rfl ag25 sz25 rfl trivial (VwL.pers rfl) (Le.agg ⟨Le.nil _ _, trivial⟩) (Vw.pers rfl)⟩
end Go.Proofs.YtebbekdebanabaaDoor

set_option linter.unusedSimpArgs false
set_option linter.unusedVariables false
set_option maxHeartbeats 4000000
set_option maxRecDepth 8000
namespace Go.Proofs.YtebbekdebanabaaDoor
open Go Go.RowKit Go.PP Go.Dm Go.Bn
theorem valN_len {d : List UInt8} (h : ∀ b ∈ d, isDg b = true) : (dig BW (valN d)).length ≤ d.length := dig_len hBW (Nat.lt_of_lt_of_le (valN_lt d h) (Nat.pow_le_pow_left (by decide) _))
theorem part_by {l : List UInt8} {i : Nat} {b : UInt8} (h : l[i]? = some b) : partD false 1 (i * 1) (bD l) = some (.flat (.int .u8 (b.toNat : Nat))) := by
  simp [partD, bD, h]
abbrev psS (s : List UInt8) (i : Nat) : DS := ⟨[(2, .ref 2 0), (4, .ref 4 0), (30, .own 30 s.length), (31, .flat (.int .i64 (s.length : Nat))), (32, .flat (.int .i64 (i : Nat)))], [(2, some (.box [.flat (.slice none 0 0)])), (4, some (.box [wsD (dig BW (valN (s.take i)))])), (30, some (.row 5 1 s.length (bD s)))]⟩
noncomputable abbrev code34 : Code := Tryd.f34.body.getD .skip
theorem parse_ok (s : List UInt8) (hl : s.length ≤ 20000) (h : Canon s) : DFun Tryd.prog 34 [strD s] (if 65536 < blen (valN s) then .tup [natD 0, .flat (.int .i64 2)] else .tup [natD (valN s), .flat (.int .i64 0)]) := by
  have ht := trims_d s (by omega)
  obtain ⟨hs, hd, h48⟩ := h
  have hne : ¬ Lib.trimS s [48, 49, 50, 51, 52, 53, 54, 55, 56, 57] ≠ [] := fun e => e ((trims_nil s).2 hd)
  generalize Lib.trimS s [48, 49, 50, 51, 52, 53, 54, 55, 56, 57] = z at *
  obtain ⟨b0, hb0⟩ : ∃ b, s[((0 : Int)).toNat]? = some b := ⟨_, List.getElem?_eq_getElem (List.length_pos_iff.2 hs)⟩
  have h48' : 1 < s.length → ¬ ((b0.toNat : Nat) : Int) = 48 := fun h1 e => h48 ⟨h1, by
    rw [List.head?_eq_getElem?]
    have : s[0]? = some b0 := hb0
    rw [this]
    exact congrArg some (u8_ext (a := b0) (b := 48) (by show b0.toNat = 48; omega))⟩
  have loop : ∀ c, selC [1, 1, 1, 1] code34 = some c → DW Tryd.prog 47 c ⟨[(0, strD s), (2, .ref 2 0), (4, .ref 4 0)], [(2, some (.box [.flat (.slice none 0 0)])), (4, some (.box [wsD (dig BW 0)]))]⟩ (QF Tryd.prog Tryd.f34 (if 65536 < blen (valN s) then .tup [natD 0, .flat (.int .i64 2)] else .tup [natD (valN s), .flat (.int .i64 0)])) := fun c hc => by
    clear ht hne h48 h48' hb0 hs
    refine DW.sel hc (by rfl) ?_
    refine DW.walk ?_
    refine DW.loopA (fun i : Nat => psS s i) (fun i => i ≤ s.length) (fun i => s.length - i) 0 ?_ (Nat.zero_le _)
    intro i hi
    have hvl := valN_len (d := s.take i) (fun b hb => hd b (List.mem_of_mem_take hb))
    rw [List.length_take, Nat.min_eq_left hi] at hvl
    rcases Nat.lt_or_ge i s.length with hlt | hge
    · obtain ⟨b, hb⟩ : ∃ b, s[i]? = some b := ⟨_, List.getElem?_eq_getElem hlt⟩
      have hbd := dg_range (hd b (List.mem_of_getElem? hb))
      have h1 := part_by hb
      have hst : valN (s.take (i + 1)) = 10 * valN (s.take i) + (b.toNat - 48) := by rw [List.take_add_one, hb, Option.toList_some, valN_snoc]
      have hsm := small_d (valN (s.take i)) 10 (b.toNat - 48) (by decide) (by show b.toNat - 48 < 4294967296; omega) (by omega)
      rw [← hst, show ((b.toNat - 48 : Nat) : Int) = (b.toNat : Int) - 48 by omega] at hsm
      have hsm : DFun Tryd.prog 64 [natD (valN (s.take i)), .flat (.int .u64 10), .flat (.int .u64 ((b.toNat : Int) - 48))] (natD (valN (s.take (i + 1)))) := hsm
      have hb2 := UInt8.toNat_lt b
      refine DW.walk ?_
      exact ⟨i + 1, by omega, by omega, Sub.auto⟩
    · obtain rfl : i = s.length := by omega
      rw [List.take_length] at hvl
      have e : psS s s.length = ⟨[(2, .ref 2 0), (4, .ref 4 0), (30, .own 30 s.length), (31, .flat (.int .i64 (s.length : Nat))), (32, .flat (.int .i64 (s.length : Nat)))], [(2, some (.box [.flat (.slice none 0 0)])), (4, some (.box [wsD (dig BW (valN s))])), (30, some (.row 5 1 s.length (bD s)))]⟩ := by unfold psS; rw [List.take_length]
      rw [e]
      have hbl := bitlen_d (valN s) (by omega)
      by_cases hbig : 65536 < blen (valN s)
      · rw [if_pos hbig, nat0]
        generalize blen (valN s) = B at *
        refine DW.walk ?_
        exact ⟨.inr rfl, ResOk.cellTmpA [] rfl rfl rfl ag25 sz25 rfl trivial (VwL.pers rfl) (Le.agg ⟨Le.nil _ _, trivial⟩) (Vw.pers rfl)⟩
      · rw [if_neg hbig]
        generalize blen (valN s) = B at *
        refine DW.walk ?_
        exact ⟨.inr rfl, ResOk.cellTmpA [] rfl rfl rfl ag25 sz25 rfl trivial (VwL.pers rfl) (Le.refl _) (Vw.pers rfl)⟩
  have e0 : D.flat (.slice none 0 0) = D.flat (.slice none 0 0) := rfl
  refine DFun.enterA Tryd.func34 Tryd.ntmps34 ?_
  by_cases h1 : 1 < s.length
  · have h2 := h48' h1
    refine DW.walkTo 5 ?_
    refine DW.cut ⟨[(0, strD s), (2, .ref 2 0), (4, .ref 4 0)], [(2, some (.box [.flat (.slice none 0 0)])), (4, some (.box [wsD (dig BW 0)]))]⟩ (by
      refine DW.walk ?_
      refine Nm.mk ?_
      rw [dig_zero]
      exact Sub.auto) ?_
    exact loop _ (by rfl)
  · refine DW.walkTo 5 ?_
    refine DW.cut ⟨[(0, strD s), (2, .ref 2 0), (4, .ref 4 0)], [(2, some (.box [.flat (.slice none 0 0)])), (4, some (.box [wsD (dig BW 0)]))]⟩ (by
      refine DW.walk ?_
      refine Nm.mk ?_
      rw [dig_zero]
      exact Sub.auto) ?_
    exact loop _ (by rfl)
end Go.Proofs.YtebbekdebanabaaDoor
