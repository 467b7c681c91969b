/- The law of comparisons, over data. No condition. -/
import Derived.Test.YtebbekdebanabaaDoorYY4
import Derived.Test.YtebbekdebanabaaDoorYN14
import Derived.Test.YtebbekdebanabaaDoorYX1

set_option linter.unusedSimpArgs false
set_option linter.unusedVariables false
set_option maxHeartbeats 4000000
set_option maxRecDepth 8000
namespace Go.Proofs.YtebbekdebanabaaDoor
open Go Go.RowKit Go.PP Go.Dm Go.Bn
theorem word_g (l : List Nat) (i : Nat) (h : l.length ≤ 1000000) (hi : i ≤ 9223372036854775807) (hl : Dg BW l) : DFun Tryd.prog 46 [natW l, .flat (.int .i64 (i : Nat))] (.flat (.int .u64 (atD l i : Nat))) := by
  refine DFun.enterA Tryd.func46 Tryd.ntmps46 ?_
  rcases Nat.lt_or_ge i l.length with hlt | hge
  · obtain ⟨d, hd⟩ : ∃ d, l[i]? = some d := ⟨_, List.getElem?_eq_getElem hlt⟩
    rw [atD_in hd]
    have h1 := part_u32 hd
    have hb : d < 4294967296 := hl.at hd
    refine DW.walk ?_
    exact ⟨.inr rfl, ResOk.one [] rfl rfl trivial (Vw.pers rfl)⟩
  · rw [atD_out hge]
    refine DW.walk ?_
    exact ⟨.inr rfl, ResOk.one [] rfl rfl trivial (Vw.pers rfl)⟩
theorem bit_g (n i : Nat) (hn : (dig BW n).length ≤ 100000) (hi : i ≤ 9223372036854775807) : DFun Tryd.prog 33 [natD n, .flat (.int .i64 (i : Nat))] (.flat (.bool (n.testBit i))) := by
  have hw := word_g (dig BW n) (i / 32) (by omega) (by omega) (dig_dg hBW n)
  have hb := bit_words (w := 32) (by decide) (l := dig BW n) (dig_dg hBW n) i
  have hv : val (2 ^ 32) (dig BW n) = n := val_dig hBW n
  rw [hv] at hb
  have ha : atD (dig BW n) (i / 32) < 4294967296 := atD_lt (dig_dg hBW n) (by decide) _
  rw [hb]
  generalize atD (dig BW n) (i / 32) = x at *
  have hq : IntKind.i64.wrap ((i : Int).tdiv 32) = ((i / 32 : Nat) : Int) := by
    rw [Int.tdiv_eq_ediv_of_nonneg (by omega)]
    exact (w64 (by omega) (by omega)).trans (by omega)
  have hr : (i : Int).tmod 32 = ((i % 32 : Nat) : Int) := by rw [Int.tmod_eq_emod_of_nonneg (by omega)]; omega
  have hm : i % 32 < 32 := Nat.mod_lt _ (by decide)
  have hs : x / 2 ^ (i % 32) < 18446744073709551616 := Nat.lt_of_le_of_lt (Nat.div_le_self _ _) (by omega)
  have he : decide (((x / 2 ^ (i % 32) &&& 1 : Nat) : Int) = 1) = x.testBit (i % 32) := by
    rw [Nat.testBit_eq_decide_div_mod_eq, Nat.and_one_is_mod]
    have : ((x / 2 ^ (i % 32) % 2 : Nat) : Int) = 1 ↔ x / 2 ^ (i % 32) % 2 = 1 := by omega
    exact decide_eq_decide.2 this
  refine DFun.enterA Tryd.func33 Tryd.ntmps33 ?_
  refine DW.walk ?_
  exact ⟨.inr rfl, ResOk.one [] rfl rfl trivial (Vw.le (Vw.pers rfl) (Le.of_eq (by rw [← he]; rfl)))⟩
theorem bit_z (n : Nat) (z : Int) (hn : (dig BW n).length ≤ 100000) (hz : z ≤ 9223372036854775807) : DFun Tryd.prog 33 [natD n, .flat (.int .i64 z)] (.flat (.bool (isB n z (blen n)))) := by
  rw [isB_all]
  by_cases h0 : z < 0
  · rw [decide_eq_false (by omega), Bool.false_and]
    exact bit_neg n z h0
  · obtain ⟨i, rfl⟩ : ∃ i : Nat, z = (i : Int) := ⟨z.toNat, by omega⟩
    rw [decide_eq_true (by omega), Bool.true_and, Int.toNat_natCast]
    exact bit_g n i hn (by omega)
theorem law5_n (la lb : List UInt8) (n m v : Nat) (z : Int) (bs : Bool) (ha : la.length ≤ 60) (hb : lb.length ≤ 60) (fa : DFun Tryd.prog 19 [byD la] (natD n)) (fb : DFun Tryd.prog 19 [byD lb] (natD m)) (ga : DFun Tryd.prog 20 [byD la] (refD n)) (gb : DFun Tryd.prog 20 [byD lb] (refD m)) (hn : n < 10 ^ 150) (hm : m < 10 ^ 150) (hz : z ≤ 9223372036854775807)
    (u1 : DFun Tryd.prog 14 [natD n] (.tup [.flat (.int .u64 (v : Nat)), .flat (.bool bs)])) (u2 : DFun Tryd.prog 29 [refD n] (.tup [.flat (.int .u64 (v : Nat)), .flat (.bool bs)])) : DFun Tryd.prog 5 [byD la, byD lb, .flat (.int .i64 z)] (.flat (.bool true)) := by
  have hkn := known_d
  have ln := few_len (few_pow (Nat.le_refl _) hn)
  have lm := few_len (few_pow (Nat.le_refl _) hm)
  have en := dLen4 hn (by decide)
  have em := dLen4 hm (by decide)
  have hbl : blen n ≤ 499 := blen_le (few_pow (Nat.le_refl _) hn)
  have c1 := cmp_d n m (by omega) (by omega)
  have c2 := cmp10_d n m (by omega) (by omega)
  have e1 := equal_d n m (by omega) (by omega)
  have hq : decide (n = m) = decide (cmpZ n m = 0) := by
    refine decide_eq_decide.2 ?_
    unfold cmpZ
    split
    · exact ⟨fun h => by omega, fun h => by cases h⟩
    · split
      · exact ⟨fun h => by omega, fun h => by cases h⟩
      · exact ⟨fun _ => rfl, fun _ => by omega⟩
  rw [hq] at e1
  have i1 := isz_d n
  have hi : decide (n = 0) = decide (((dig 10 n).length : Int) = 0) := by
    refine decide_eq_decide.2 ⟨fun h => ?_, fun h => ?_⟩
    · rw [h, dig_zero]; rfl
    · refine Classical.byContradiction fun h0 => ?_
      have := dlen_pos h0
      omega
  rw [hi] at i1
  have b1 := bitlen_d n ln
  have b2 := bit_z n z ln hz
  have b3 := bits10_d n z en (by omega)
  clear hn hm hq hi
  generalize isB n z (blen n) = is at *
  generalize blen n = k at *
  generalize cmpZ n m = c at *
  refine DFun.enterA Tryd.func5 Tryd.ntmps5 ?_
  refine DW.walk ?_
  exact ⟨.inr rfl, ResOk.one [] rfl rfl trivial (Vw.pers rfl)⟩
theorem law5_d (a b : List UInt8) (z : Int) (ha : a.length ≤ 140737488351232) (hb : b.length ≤ 140737488351232) (hz : (Lit.int .i64 z).wf = true) : DFun Tryd.prog 5 [byD a, byD b, .flat (.int .i64 z)] (.flat (.bool true)) := by
  have hr : -9223372036854775808 ≤ z ∧ z ≤ 9223372036854775807 := by simpa [Lit.wf, IntKind.min, IntKind.max, IntKind.signed, IntKind.bits] using hz
  clear hz
  have hk := known_d
  by_cases h1 : a.length ≤ 60
  · by_cases h2 : b.length ≤ 60
    · have na := Nat.lt_of_lt_of_le (numB_lt a) (Nat.pow_le_pow_right (by decide) (show a.length ≤ 150 by omega))
      have nb := Nat.lt_of_lt_of_le (numB_lt b) (Nat.pow_le_pow_right (by decide) (show b.length ≤ 150 by omega))
      have ln := few_len (few_pow (Nat.le_refl _) na)
      have en := dLen4 na (by decide)
      have fa := of_d a (by omega)
      have fb := of_d b (by omega)
      have ga := digits_d a (by omega)
      have gb := digits_d b (by omega)
      by_cases hs : numB a < 18446744073709551616
      · exact law5_n a b _ _ _ z true h1 h2 fa fb ga gb na nb hr.2 (u64_d _ ln hs) (small10_d _ en hs)
      · exact law5_n a b _ _ 0 z false h1 h2 fa fb ga gb na nb hr.2 (u64_no _ ln (by omega)) (small10_no _ en (by omega))
    · refine DFun.enterA Tryd.func5 Tryd.ntmps5 ?_
      refine DW.walk ?_
      exact ⟨.inr rfl, ResOk.one [] rfl rfl trivial (Vw.pers rfl)⟩
  · refine DFun.enterA Tryd.func5 Tryd.ntmps5 ?_
    refine DW.walk ?_
    exact ⟨.inr rfl, ResOk.one [] rfl rfl trivial (Vw.pers rfl)⟩
end Go.Proofs.YtebbekdebanabaaDoor
