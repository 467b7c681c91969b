/- Contracts over data: bits, numbers of 64 bits, powers of two. No condition. -/
import Derived.Test.YtebbekdebanabaaDoorYQ2
import Derived.Test.YtebbekdebanabaaDoorYFU
import Derived.Test.YtebbekdebanabaaDoorYNG
import Derived.Test.YtebbekdebanabaaDoorYW4
import Derived.Test.YtebbekdebanabaaDoorYM1

set_option linter.unusedSimpArgs false
set_option linter.unusedVariables false
set_option maxHeartbeats 4000000
set_option maxRecDepth 8000
namespace Go.Proofs.YtebbekdebanabaaDoor
open Go Go.RowKit Go.PP Go.Dm Go.Bn
theorem bitLen_eq {x : Nat} (hx : x < 18446744073709551616) : Lib.bitLen x = blen x := by
  have key : ∀ (f x : Nat), x < 2 ^ f → Lib.bitLenAux f x = blen x := by
    intro f
    induction f with
    | zero =>
      intro x h
      have : x = 0 := by rw [Nat.pow_zero] at h; omega
      subst this
      rw [blen_zero]; rfl
    | succ f ih =>
      intro x h
      by_cases h0 : x = 0
      · subst h0
        rw [blen_zero]; rfl
      · rw [blen_pos h0, Lib.bitLenAux, if_neg h0, ih (x / 2) (by rw [Nat.pow_succ] at h; omega)]
        omega
  exact key 64 x hx
theorem bitlen_d (n : Nat) (hn : (dig BW n).length ≤ 100000) : DFun Tryd.prog 32 [natD n] (.flat (.int .i64 (blen n : Nat))) := by
  have hz := isz_d n
  by_cases h0 : n = 0
  · subst h0
    rw [decide_eq_true rfl] at hz
    rw [blen_zero]
    refine DFun.enterA Tryd.func32 Tryd.ntmps32 ?_
    refine DW.walk ?_
    exact ⟨.inr rfl, ResOk.one [] rfl rfl trivial (Vw.pers rfl)⟩
  · rw [decide_eq_false h0] at hz
    have hne : dig BW n ≠ [] := fun e => h0 ((dig_nil hBW).1 e)
    have hpos : 0 < (dig BW n).length := List.length_pos_iff.2 hne
    obtain ⟨t, ht⟩ : ∃ t, (dig BW n)[(dig BW n).length - 1]? = some t := ⟨_, List.getElem?_eq_getElem (by omega)⟩
    have htB : t < 4294967296 := (dig_dg hBW n).at ht
    have ht0 : t ≠ 0 := (dig_cn hBW n).2 t (by rw [List.getLast?_eq_getElem?]; exact ht)
    have hb := blen_words (w := 32) (l := dig BW n) (dig_dg hBW n) ht ht0
    have hv : val (2 ^ 32) (dig BW n) = n := val_dig hBW n
    rw [hv] at hb
    have h1 := len32_d t htB
    rw [bitLen_eq (by omega)] at h1
    have h2 := part_u32 ht
    have h3 : blen t ≤ 32 := blen_le (by omega)
    rw [hb]
    generalize blen t = c at *
    refine DFun.enterA Tryd.func32 Tryd.ntmps32 ?_
    refine DW.walk ?_
    refine ⟨.inr rfl, ResOk.one [] rfl rfl trivial (Vw.le (Vw.pers rfl) (Le.of_eq ?_))⟩
    refine congrArg (fun z : Int => D.flat (.int .i64 z)) ?_
    omega
theorem bit_w (n i : Nat) (hn : (dig BW n).length ≤ 100000) (hi : i ≤ 1000000) : DFun Tryd.prog 33 [natD n, .flat (.int .i64 (i : Nat))] (.flat (.bool (n.testBit i))) := by
  have hw := word_d (dig BW n) (i / 32) (by omega) (by omega) (dig_dg hBW n)
  have hb := bit_words (w := 32) (by decide) (l := dig BW n) (dig_dg hBW n) i
  have hv : val (2 ^ 32) (dig BW n) = n := val_dig hBW n
  rw [hv] at hb
  have ha : atD (dig BW n) (i / 32) < 4294967296 := atD_lt (dig_dg hBW n) (by decide) _
  rw [hb]
  generalize atD (dig BW n) (i / 32) = x at *
  have hq : IntKind.i64.wrap ((i : Int).tdiv 32) = ((i / 32 : Nat) : Int) := by
    rw [Int.tdiv_eq_ediv_of_nonneg (by omega)]
    exact (w64 (by omega) (by omega)).trans (by omega)
  have hr : (i : Int).tmod 32 = ((i % 32 : Nat) : Int) := by rw [Int.tmod_eq_emod_of_nonneg (by omega)]; omega
  have hm : i % 32 < 32 := Nat.mod_lt _ (by decide)
  have hs : x / 2 ^ (i % 32) < 18446744073709551616 := Nat.lt_of_le_of_lt (Nat.div_le_self _ _) (by omega)
  have he : decide (((x / 2 ^ (i % 32) &&& 1 : Nat) : Int) = 1) = x.testBit (i % 32) := by
    rw [Nat.testBit_eq_decide_div_mod_eq, Nat.and_one_is_mod]
    have : ((x / 2 ^ (i % 32) % 2 : Nat) : Int) = 1 ↔ x / 2 ^ (i % 32) % 2 = 1 := by omega
    exact decide_eq_decide.2 this
  refine DFun.enterA Tryd.func33 Tryd.ntmps33 ?_
  refine DW.walk ?_
  exact ⟨.inr rfl, ResOk.one [] rfl rfl trivial (Vw.le (Vw.pers rfl) (Le.of_eq (by rw [← he]; rfl)))⟩
theorem bit_neg (n : Nat) (z : Int) (hz : z < 0) : DFun Tryd.prog 33 [natD n, .flat (.int .i64 z)] (.flat (.bool false)) := by
  refine DFun.enterA Tryd.func33 Tryd.ntmps33 ?_
  refine DW.walk ?_
  exact ⟨.inr rfl, ResOk.one [] rfl rfl trivial (Vw.pers rfl)⟩
theorem u64_d (n : Nat) (hn : (dig BW n).length ≤ 100000) (h : n < 18446744073709551616) : DFun Tryd.prog 14 [natD n] (.tup [.flat (.int .u64 (n : Nat)), .flat (.bool true)]) := by
  have hb := bitlen_d n hn
  have hbl : blen n ≤ 64 := blen_le (by show n < 2 ^ 64; omega)
  have w0 := word_d (dig BW n) 0 (by omega) (by omega) (dig_dg hBW n)
  have w1 := word_d (dig BW n) 1 (by omega) (by omega) (dig_dg hBW n)
  have a0 : atD (dig BW n) 0 < 4294967296 := atD_lt (dig_dg hBW n) (by decide) _
  have a1 : atD (dig BW n) 1 < 4294967296 := atD_lt (dig_dg hBW n) (by decide) _
  have hl2 : (dig BW n).length ≤ 2 := dig_len hBW (by show n < 4294967296 ^ 2; omega)
  have e1 := val_takeD (B := BW) (dig BW n) 0
  have e2 := val_takeD (B := BW) (dig BW n) 1
  rw [e1, List.take_of_length_le hl2, val_dig hBW] at e2
  have e2 : n = 0 + 1 * atD (dig BW n) 0 + 4294967296 * atD (dig BW n) 1 := e2
  have hor := or32 _ _ a1 a0
  generalize atD (dig BW n) 0 = x at *
  generalize atD (dig BW n) 1 = y at *
  refine DFun.enterA Tryd.func14 Tryd.ntmps14 ?_
  refine DW.walk ?_
  refine ⟨.inr rfl, ResOk.two [] rfl rfl rfl trivial (Vw.le (Vw.pers rfl) (Le.of_eq ?_)) (Vw.pers rfl)⟩
  rw [hor, e2]
  refine congrArg (fun z : Nat => D.flat (.int .u64 (z : Int))) ?_
  omega
theorem u64_no (n : Nat) (hn : (dig BW n).length ≤ 100000) (h : 18446744073709551616 ≤ n) : DFun Tryd.prog 14 [natD n] (.tup [.flat (.int .u64 0), .flat (.bool false)]) := by
  have hb := bitlen_d n hn
  have hbl : 64 < blen n := blen_ge (by show 2 ^ 64 ≤ n; omega)
  refine DFun.enterA Tryd.func14 Tryd.ntmps14 ?_
  refine DW.walk ?_
  exact ⟨.inr rfl, ResOk.two [] rfl rfl rfl trivial (Vw.pers rfl) (Vw.pers rfl)⟩
theorem pow_dig (n : Nat) : putN (List.replicate (n / 32 + 1) 0) (n / 32) (1 * 2 ^ (n % 32) % 4294967296) = dig BW (2 ^ n) ∧ (dig BW (2 ^ n)).length = n / 32 + 1 := by
  have hm : n % 32 < 32 := Nat.mod_lt _ (by decide)
  have hp : 2 ^ (n % 32) < 4294967296 := Nat.lt_of_lt_of_le (Nat.pow_lt_pow_right (by decide) hm) (by decide)
  have h0 : 0 < 2 ^ (n % 32) := Nat.pow_pos (by decide)
  have e1 : putN (List.replicate (n / 32 + 1) 0) (n / 32) (1 * 2 ^ (n % 32) % 4294967296) = List.replicate (n / 32) 0 ++ [2 ^ (n % 32)] := by
    have := put_mid (List.replicate (n / 32) 0) 0 (1 * 2 ^ (n % 32) % 4294967296) []
    rw [List.length_replicate] at this
    rw [List.replicate_succ', this, Nat.one_mul, Nat.mod_eq_of_lt hp]
  have hv : val BW (List.replicate (n / 32) 0 ++ [2 ^ (n % 32)]) = 2 ^ n := by
    rw [val_snoc, val_zeros, List.length_replicate, Nat.zero_add]
    have : (4294967296 : Nat) = 2 ^ 32 := by decide
    show 4294967296 ^ (n / 32) * 2 ^ (n % 32) = 2 ^ n
    rw [this, ← Nat.pow_mul, ← Nat.pow_add]
    congr 1
    omega
  have hc : Cn BW (List.replicate (n / 32) 0 ++ [2 ^ (n % 32)]) := by
    refine ⟨fun d hd => ?_, fun d hd => ?_⟩
    · rcases List.mem_append.1 hd with hd | hd
      · rw [(List.mem_replicate.1 hd).2]; decide
      · rw [List.mem_singleton] at hd; subst hd; exact hp
    · rw [List.getLast?_append, List.getLast?_singleton] at hd
      have hd : 2 ^ (n % 32) = d := Option.some.inj hd
      omega
  have hdv := dig_val hBW hc
  rw [hv] at hdv
  rw [e1, hdv]
  exact ⟨rfl, by rw [List.length_append, List.length_replicate, List.length_singleton]⟩
theorem pow2_d (n : Nat) (h : n < 65536) : DFun Tryd.prog 36 [.flat (.int .i64 (n : Nat))] (.tup [natD (2 ^ n), .flat (.int .i64 0)]) := by
  have hq : IntKind.i64.wrap ((n : Int).tdiv 32) = ((n / 32 : Nat) : Int) := by
    rw [Int.tdiv_eq_ediv_of_nonneg (by omega)]
    exact (w64 (by omega) (by omega)).trans (by omega)
  have hr : (n : Int).tmod 32 = ((n % 32 : Nat) : Int) := by rw [Int.tmod_eq_emod_of_nonneg (by omega)]; omega
  have hm : n % 32 < 32 := Nat.mod_lt _ (by decide)
  have hd := pow_dig n
  refine DFun.enterA Tryd.func36 Tryd.ntmps36 ?_
  refine DW.walkTo 4 ?_
  rw [u32L_rep]
  refine DW.walk ?_
  refine ⟨.inr rfl, ResOk.cellTmpA [(15, some (.row 22 1 (n / 32 + 1) _))] rfl rfl rfl ag25 sz25 rfl ⟨rfl, trivial⟩ (VwL.cons (Vw.own (.head _) (VwL.pers (u32L_pers _))) VwL.nil) (Le.of_eq ?_) (Vw.pers rfl)⟩
  rw [hd.1, ← hd.2]
theorem pow2_no (z : Int) (h : z < 0 ∨ 65536 ≤ z) : DFun Tryd.prog 36 [.flat (.int .i64 z)] (.tup [natD 0, .flat (.int .i64 2)]) := by
  have e0 : natD 0 = .agg [.sl false 1 0 []] := by unfold natD; rw [dig_zero]; rfl
  rw [e0]
  refine DFun.enterA Tryd.func36 Tryd.ntmps36 ?_
  rcases h with h | h
  · refine DW.walk ?_
    exact ⟨.inr rfl, ResOk.cellTmpA [] rfl rfl rfl ag25 sz25 rfl trivial (VwL.pers rfl) (Le.agg ⟨Le.nil _ _, trivial⟩) (Vw.pers rfl)⟩
  · refine DW.walk ?_
    exact ⟨.inr rfl, ResOk.cellTmpA [] rfl rfl rfl ag25 sz25 rfl trivial (VwL.pers rfl) (Le.agg ⟨Le.nil _ _, trivial⟩) (Vw.pers rfl)⟩
end Go.Proofs.YtebbekdebanabaaDoor

set_option linter.unusedSimpArgs false
set_option linter.unusedVariables false
set_option maxHeartbeats 4000000
set_option maxRecDepth 8000
namespace Go.Proofs.YtebbekdebanabaaDoor
open Go Go.RowKit Go.PP Go.Dm Go.Bn
/-- What a shift by fewer than 32 places does. -/
structure LfI (by_ : Nat) (a : List Nat) (i : Nat) (out : List Nat) : Prop where
  len : out.length = a.length + 1
  dg : Dg BW out
  v : val BW out = val BW (a.take i) * 2 ^ by_
  c : ∃ c, out[i]? = some c ∧ c < 2 ^ by_
  hi : ∀ j, i < j → j < a.length + 1 → out[j]? = some 0
theorem LfI.zero (s : Nat) (a : List Nat) : LfI s a 0 (List.replicate (a.length + 1) 0) := ⟨List.length_replicate, fun d hd => (by rw [(List.mem_replicate.1 hd).2]; decide), by rw [val_zeros, List.take_zero]; show 0 = 0 * _; rw [Nat.zero_mul], ⟨0, by rw [List.getElem?_replicate, if_pos (by omega)], Nat.pow_pos (by decide)⟩, fun j _ hj => by rw [List.getElem?_replicate, if_pos hj]⟩
/-- The two stores of one round. -/
def lfP (s : Nat) (out : List Nat) (i x c : Nat) : List Nat := putN (putN out i (c ||| x * 2 ^ s % 4294967296)) (i + 1) (x * 2 ^ s / 4294967296)
theorem lf_or {s x c : Nat} (hs : s < 32) (hx : x < 4294967296) (hc : c < 2 ^ s) : c ||| x * 2 ^ s % 4294967296 = c + x * 2 ^ s % 4294967296 := by
  obtain ⟨t, ht⟩ : ∃ t, 4294967296 = 2 ^ s * t := ⟨2 ^ (32 - s), by rw [← Nat.pow_add, show s + (32 - s) = 32 by omega]⟩
  have e : x * 2 ^ s % 4294967296 = 2 ^ s * (x % t) := by rw [ht, Nat.mul_comm x, Nat.mul_mod_mul_left]
  rw [e, Nat.or_comm, ← Nat.two_pow_add_eq_or_of_lt hc, Nat.add_comm]
theorem lf_lt {s x c : Nat} (hs : s < 32) (hx : x < 4294967296) (hc : c < 2 ^ s) : c + x * 2 ^ s % 4294967296 < 4294967296 := by
  obtain ⟨t, ht⟩ : ∃ t, 4294967296 = 2 ^ s * t := ⟨2 ^ (32 - s), by rw [← Nat.pow_add, show s + (32 - s) = 32 by omega]⟩
  have e : x * 2 ^ s % 4294967296 = 2 ^ s * (x % t) := by rw [ht, Nat.mul_comm x, Nat.mul_mod_mul_left]
  have ht0 : 0 < t := Nat.pos_of_ne_zero fun e => by rw [e, Nat.mul_zero] at ht; cases ht
  have hm := Nat.mod_lt x ht0
  rw [e, ht]
  have : 2 ^ s * (x % t) + 2 ^ s ≤ 2 ^ s * t := by
    have := Nat.mul_le_mul_left (2 ^ s) (show x % t + 1 ≤ t from hm)
    rwa [Nat.mul_add, Nat.mul_one] at this
  omega
theorem lf_div {s x : Nat} (hx : x < 4294967296) : x * 2 ^ s / 4294967296 < 2 ^ s := by
  refine Nat.div_lt_of_lt_mul ?_
  exact Nat.mul_lt_mul_of_pos_right hx (Nat.pow_pos (by decide))
theorem LfI.step {s : Nat} {a out : List Nat} {i x c : Nat} (hs : s < 32) (h : LfI s a i out) (hx : a[i]? = some x) (hxB : x < 4294967296) (hc : out[i]? = some c) : LfI s a (i + 1) (lfP s out i x c) := by
  have hi := (List.getElem?_eq_some_iff.1 hx).1
  have hl := h.len
  obtain ⟨c', hc1, hc2⟩ := h.c
  rw [hc, Option.some.injEq] at hc1
  subst hc1
  have hor := lf_or hs hxB hc2
  have hlt := lf_lt hs hxB hc2
  have hdv := lf_div (s := s) hxB
  have h2s : 2 ^ s ≤ 4294967296 := Nat.le_trans (Nat.pow_le_pow_right (by decide) (Nat.le_of_lt hs)) (by decide)
  have h0 := h.hi (i + 1) (by omega) (by omega)
  unfold lfP
  have e1 : putN out i (c + x * 2 ^ s % 4294967296) = out.set i (c + x * 2 ^ s % 4294967296) := put_set (by omega) _
  rw [hor, e1, put_set (by rw [List.length_set]; omega)]
  have v1 := val_set (B := BW) (x := c + x * 2 ^ s % 4294967296) hc
  have hz : (out.set i (c + x * 2 ^ s % 4294967296))[i + 1]? = some 0 := by rw [List.getElem?_set_ne (by omega)]; exact h0
  have v2 := val_set (B := BW) (x := x * 2 ^ s / 4294967296) hz
  rw [Nat.mul_zero, Nat.add_zero] at v2
  refine ⟨by rw [List.length_set, List.length_set, hl], (h.dg.set hlt i).set (Nat.lt_of_lt_of_le hdv h2s) (i + 1), ?_, ⟨x * 2 ^ s / 4294967296, by rw [List.getElem?_set_self (by rw [List.length_set]; omega)], hdv⟩, fun j h1 h2 => ?_⟩
  · rw [v2, val_take hx, Nat.add_mul, ← h.v]
    have hp := pow_split BW i (x * 2 ^ s)
    have hd : BW ^ i * (c + x * 2 ^ s % 4294967296) = BW ^ i * c + BW ^ i * (x * 2 ^ s % BW) := Nat.mul_add ..
    have he : BW ^ (i + 1) * (x * 2 ^ s / 4294967296) = BW ^ (i + 1) * (x * 2 ^ s / BW) := rfl
    rw [hd] at v1
    rw [he, Nat.mul_assoc]
    omega
  · rw [List.getElem?_set_ne (by omega), List.getElem?_set_ne (by omega)]
    exact h.hi j (by omega) h2
theorem LfI.done {s : Nat} {a out : List Nat} (h : LfI s a a.length out) : val BW out = val BW a * 2 ^ s := by
  have := h.v
  rwa [List.take_length] at this
/-- The words as they are shifted. -/
def lfW (s : Nat) (a : List Nat) : Nat → List Nat
  | 0 => List.replicate (a.length + 1) 0
  | i + 1 => lfP s (lfW s a i) i (a.getD i 0) ((lfW s a i).getD i 0)
theorem lfW_inv {s : Nat} {a : List Nat} (hs : s < 32) (ha : Dg BW a) : ∀ i, i ≤ a.length → LfI s a i (lfW s a i)
  | 0, _ => LfI.zero s a
  | i + 1, h => by
    have ih := lfW_inv hs ha i (by omega)
    obtain ⟨c, hc, _⟩ := ih.c
    have hx : a[i]? = some a[i] := List.getElem?_eq_getElem (by omega)
    have := ih.step hs hx (ha.at hx) hc
    show LfI s a (i + 1) (lfP s (lfW s a i) i (a.getD i 0) ((lfW s a i).getD i 0))
    rwa [List.getD_eq_getElem?_getD, List.getD_eq_getElem?_getD, hc, hx]
def leftW (s : Nat) (a : List Nat) : List Nat := lfW s a a.length
theorem left_len {s : Nat} {a : List Nat} (hs : s < 32) (ha : Dg BW a) : (leftW s a).length = a.length + 1 := (lfW_inv hs ha _ (Nat.le_refl _)).len
theorem left_dg {s : Nat} {a : List Nat} (hs : s < 32) (ha : Dg BW a) : Dg BW (leftW s a) := (lfW_inv hs ha _ (Nat.le_refl _)).dg
theorem left_val {s : Nat} {a : List Nat} (hs : s < 32) (ha : Dg BW a) : val BW (leftW s a) = val BW a * 2 ^ s := (lfW_inv hs ha _ (Nat.le_refl _)).done
theorem keysOf_u32 (l : List Nat) : keysOf (u32L l) = none := by cases l <;> rfl
/-- The shift, its words in a box of the caller's. -/
theorem left_b (a : List Nat) (s : Nat) (hs : s < 32) (ha : Dg BW a) (la : a.length ≤ 100000) : DLend Tryd.prog 51 [natW a, .flat (.int .i64 (s : Nat))] [(62705706376413983192932485137940986937884566817559884303787719047888900688851843143864471152753692283952033148481586190617316153647706554688546833642147551178398414506059224584003254872599754021256875212800007, none)] [(62705706376413983192932485137940986937884566817559884303787719047888900688851843143864471152753692283952033148481586190617316153647706554688546833642147551178398414506059224584003254872599754021256875212800007, some (.box (u32L (leftW s a))))] (.bsl 62705706376413983192932485137940986937884566817559884303787719047888900688851843143864471152753692283952033148481586190617316153647706554688546833642147551178398414506059224584003254872599754021256875212800007 0 (a.length + 1) (a.length + 1)) := by
  have i13 : BoxAt 13 62705706376413983192932485137940986937884566817559884303787719047888900688851843143864471152753692283952033148481586190617316153647706554688546833642147551178398414506059224584003254872599754021256875212800007 := ⟨⟩
  refine DLend.enterA Tryd.func51 Tryd.ntmps51 ?_
  refine DW.walk ?_
  rw [u32L_rep]
  refine DW.loopA (fun j : Nat => ⟨[(1, .flat (.int .i64 (s : Nat))), (5, .bsl 62705706376413983192932485137940986937884566817559884303787719047888900688851843143864471152753692283952033148481586190617316153647706554688546833642147551178398414506059224584003254872599754021256875212800007 0 (a.length + 1) (a.length + 1)), (15, wsD a), (16, .flat (.int .i64 (a.length : Nat))), (17, .flat (.int .i64 (j : Nat)))], [(62705706376413983192932485137940986937884566817559884303787719047888900688851843143864471152753692283952033148481586190617316153647706554688546833642147551178398414506059224584003254872599754021256875212800007, some (.box (u32L (lfW s a j))))]⟩) (fun j => j ≤ a.length) (fun j => a.length - j) 0 ?_ (Nat.zero_le _)
  intro j hj
  have hinv := lfW_inv hs ha j hj
  have hlen := hinv.len
  rcases Nat.lt_or_ge j a.length with hlt | hge
  · obtain ⟨c, hc, hc2⟩ := hinv.c
    have hx : a[j]? = some a[j] := List.getElem?_eq_getElem (by omega)
    have hst : lfW s a (j + 1) = lfP s (lfW s a j) j a[j] c := by
      show lfP s (lfW s a j) j (a.getD j 0) ((lfW s a j).getD j 0) = _
      rw [List.getD_eq_getElem?_getD, List.getD_eq_getElem?_getD, hc, hx]; rfl
    have hxB : a[j] < 4294967296 := ha.at hx
    have hcB : c < 4294967296 := hinv.dg.at hc
    have h0 := hinv.hi (j + 1) (by omega) (by omega)
    generalize a[j] = x at *
    unfold lfP at hst
    have hp : x * 2 ^ s < 18446744073709551616 := by
      have h1 : x * 2 ^ s ≤ 4294967295 * 2 ^ 31 := Nat.mul_le_mul (by omega) (Nat.pow_le_pow_right (by decide) (by omega))
      omega
    have hmod : x * 2 ^ s % 18446744073709551616 = x * 2 ^ s := Nat.mod_eq_of_lt hp
    have hP : x * 2 ^ s % 4294967296 < 4294967296 := Nat.mod_lt _ (by decide)
    generalize hm : lfW s a j = m at *
    clear hinv
    have h1 := part_u32 hx
    have h2 : partD false 1 (0 + j) (u32L m) = some (.flat (.int .u32 (c : Nat))) := by rw [Nat.zero_add]; have := part_u32 hc; rwa [Nat.mul_one] at this
    have hk1 := keysOf_u32 m
    refine DW.walkTo 6 ?_
    rw [hmod]
    generalize x * 2 ^ s = p at *
    have hor : IntKind.u32.wrap ((BitVec.ofInt IntKind.u32.bits (c : Int) ||| BitVec.ofInt IntKind.u32.bits ((p % 4294967296 : Nat) : Int)).toNat) = ((c ||| p % 4294967296 : Nat) : Int) := nat_or rfl hcB hP
    have hk2 := keysOf_u32 (putN m (0 + j) (c ||| p % 4294967296))
    have hl2 : (putN m j (c ||| p % 4294967296)).length = a.length + 1 := by rw [put_set (by omega), List.length_set, hlen]
    refine DW.walk ?_
    rw [Nat.zero_add, Nat.zero_add, show p / 2 ^ 32 = p / 4294967296 from rfl]
    rw [← hst]
    exact ⟨j + 1, by omega, by omega, Sub.auto⟩
  · obtain rfl : j = a.length := by omega
    refine DW.walk ?_
    exact ⟨.inr rfl, ResL.oneA⟩
/-- The shift, its words for themselves. -/
theorem left_d (a : List Nat) (s : Nat) (hs : s < 32) (ha : Dg BW a) (la : a.length ≤ 100000) : DFun Tryd.prog 51 [natW a, .flat (.int .i64 (s : Nat))] (wsD (leftW s a)) := by
  have hll := left_len hs ha
  refine DFun.enterA Tryd.func51 Tryd.ntmps51 ?_
  refine DW.walk ?_
  rw [u32L_rep]
  refine DW.loopA (fun j : Nat => ⟨[(1, .flat (.int .i64 (s : Nat))), (5, .own 13 (a.length + 1)), (15, wsD a), (16, .flat (.int .i64 (a.length : Nat))), (17, .flat (.int .i64 (j : Nat)))], [(13, some (.row 22 1 (a.length + 1) (u32L (lfW s a j))))]⟩) (fun j => j ≤ a.length) (fun j => a.length - j) 0 ?_ (Nat.zero_le _)
  intro j hj
  have hinv := lfW_inv hs ha j hj
  have hlen := hinv.len
  rcases Nat.lt_or_ge j a.length with hlt | hge
  · obtain ⟨c, hc, hc2⟩ := hinv.c
    have hx : a[j]? = some a[j] := List.getElem?_eq_getElem (by omega)
    have hst : lfW s a (j + 1) = lfP s (lfW s a j) j a[j] c := by
      show lfP s (lfW s a j) j (a.getD j 0) ((lfW s a j).getD j 0) = _
      rw [List.getD_eq_getElem?_getD, List.getD_eq_getElem?_getD, hc, hx]; rfl
    have hxB : a[j] < 4294967296 := ha.at hx
    have hcB : c < 4294967296 := hinv.dg.at hc
    have h0 := hinv.hi (j + 1) (by omega) (by omega)
    generalize a[j] = x at *
    unfold lfP at hst
    have hp : x * 2 ^ s < 18446744073709551616 := by
      have h1 : x * 2 ^ s ≤ 4294967295 * 2 ^ 31 := Nat.mul_le_mul (by omega) (Nat.pow_le_pow_right (by decide) (by omega))
      omega
    have hmod : x * 2 ^ s % 18446744073709551616 = x * 2 ^ s := Nat.mod_eq_of_lt hp
    have hP : x * 2 ^ s % 4294967296 < 4294967296 := Nat.mod_lt _ (by decide)
    generalize hm : lfW s a j = m at *
    clear hinv
    have h1 := part_u32 hx
    have h2 := part_u32 hc
    refine DW.walkTo 6 ?_
    rw [hmod]
    generalize x * 2 ^ s = p at *
    have hor : IntKind.u32.wrap ((BitVec.ofInt IntKind.u32.bits (c : Int) ||| BitVec.ofInt IntKind.u32.bits ((p % 4294967296 : Nat) : Int)).toNat) = ((c ||| p % 4294967296 : Nat) : Int) := nat_or rfl hcB hP
    have hl2 : (putN m j (c ||| p % 4294967296)).length = a.length + 1 := by rw [put_set (by omega), List.length_set, hlen]
    refine DW.walk ?_
    rw [show p / 2 ^ 32 = p / 4294967296 from rfl]
    rw [← hst]
    exact ⟨j + 1, by omega, by omega, Sub.auto⟩
  · obtain rfl : j = a.length := by omega
    refine DW.walk ?_
    refine ⟨.inr rfl, ResOk.one [(13, some (.row 22 1 (a.length + 1) _))] rfl rfl ⟨rfl, trivial⟩ (Vw.le (Vw.own (.head _) (VwL.pers (u32L_pers _))) (Le.of_eq ?_))⟩
    show _ = D.sl false 1 (leftW s a).length _
    rw [hll]; rfl
end Go.Proofs.YtebbekdebanabaaDoor
