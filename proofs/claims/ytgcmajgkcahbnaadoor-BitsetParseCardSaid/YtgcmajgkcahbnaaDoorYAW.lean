/- Sets as data; their words. No condition. -/
import Derived.Test.YtgcmajgkcahbnaaDoorXW
import Derived.Test.YtgcmajgkcahbnaaDoorYAZ

set_option linter.unusedSimpArgs false
set_option linter.unusedVariables false
set_option linter.unusedSectionVars false
namespace Go.Bs
open Go Go.Dm
variable [GlobW]

def wI (S : Nat) (i : Nat) : Int := (wdS S i : Nat)
/-- A set as data: sixteen words. -/
def tlC (S : Nat) : List D := (aD .u64 16 (wI S)).tail
def setC (S : Nat) : List D := .flat (.int .u64 (wI S 0)) :: tlC S
theorem setC_aD (S : Nat) : setC S = aD .u64 16 (wI S) := rfl
abbrev setD (S : Nat) : D := .agg (setC S)
theorem arr_set {S T : Nat} (hS : SetOk S) (hT : SetOk T) : arrEq 16 (wI S) (wI T) = decide (S = T) := by
  unfold arrEq
  by_cases h : S = T
  · subst h
    rw [decide_eq_true rfl, List.all_eq_true]
    intro i _; exact decide_eq_true rfl
  · rw [decide_eq_false h, ← Bool.not_eq_true, List.all_eq_true]
    intro hall
    refine h (set_ext hS hT fun i hi => ?_)
    have := of_decide_eq_true (hall i (List.mem_range.2 hi))
    unfold wI at this
    omega
theorem arr_zero {S : Nat} (hS : SetOk S) : arrEq 16 (wI S) (fun _ => 0) = decide (S = 0) := by
  have e : (fun _ => 0 : Nat → Int) = wI 0 := by funext i; unfold wI; rw [wd_zero]; rfl
  rw [e, arr_set hS ok_zero]
theorem setC_zero : setC 0 = aD .u64 16 (fun _ => 0) := (setC_aD 0).trans <| aD_congr fun i _ => by unfold wI; rw [wd_zero]; rfl
theorem setC_get (S : Nat) {i : Nat} (h : i < 16) : partD false 1 (0 + i * 1) (setC S) = some (.flat (.int .u64 (wdS S i : Nat))) := by rw [setC_aD]; exact aD_part _ h
theorem setC_get' (S : Nat) {i : Nat} (h : i < 16) : partD false 1 (i * 1) (setC S) = some (.flat (.int .u64 (wdS S i : Nat))) := by rw [setC_aD]; exact aD_part' _ h
theorem setC_all (S : Nat) : partD true 16 0 (setC S) = some (setD S) := by unfold setD; rw [setC_aD]; exact aD_all _
theorem setC_pers (S : Nat) : persL (setC S) = true := by rw [setC_aD]; exact aD_pers _ _ _
theorem setC_one (S : Nat) : oneL (setC S) = true := by rw [setC_aD]; exact aD_one _ _ _
/-- A word that is put makes a set. -/
theorem setC_put {S T i v : Nat} (h : i < 16) (hv : wdS T i = v) (ho : ∀ j, j < 16 → j ≠ i → wdS T j = wdS S j) : spliceD (setC S) (0 + i * 1) [.flat (.int .u64 (v : Nat))] = setC T := by
  rw [setC_aD, setC_aD, aD_set _ _ h]
  refine aD_congr fun j hj => ?_
  by_cases e : j = i
  · subst e; rw [if_pos rfl]; unfold wI; rw [hv]
  · rw [if_neg e]; unfold wI; rw [ho j hj e]
theorem pow_mod_lt (n : Nat) : 2 ^ (n % 64) < 18446744073709551616 := by
  have : 2 ^ (n % 64) ≤ 2 ^ 63 := Nat.pow_le_pow_right (by decide) (by omega)
  have h2 : (2 : Nat) ^ 63 < 18446744073709551616 := by decide
  omega
/-- One more element, one less. -/
theorem put_with {S n : Nat} (hn : n < 1024) : spliceD (setC S) (0 + n / 64 * 1) [.flat (.int .u64 ((wdS S (n / 64) ||| 2 ^ (n % 64) : Nat)))] = setC (S ||| 2 ^ n) :=
  setC_put (by omega) (by rw [wd_or, wd_pow, if_pos rfl]) (fun j _ h => by rw [wd_or, wd_pow, if_neg (fun e => h e.symm), Nat.or_zero])
theorem put_without {S n : Nat} (hn : n < 1024) : spliceD (setC S) (0 + n / 64 * 1) [.flat (.int .u64 ((wdS S (n / 64) ^^^ (wdS S (n / 64) &&& 2 ^ (n % 64)) : Nat)))] = setC (minS S (2 ^ n)) :=
  setC_put (by omega) (by rw [wd_min, wd_pow, if_pos rfl]; rfl) (fun j _ h => by
    rw [wd_min, wd_pow, if_neg (fun e => h e.symm)]
    unfold minS
    rw [Nat.and_zero, Nat.xor_zero])
theorem has_bit (S n : Nat) : decide (((wdS S (n / 64) &&& 2 ^ (n % 64) : Nat) : Int) ≠ 0) = S.testBit n := by
  have hb : (wdS S (n / 64)).testBit (n % 64) = S.testBit n := by
    rw [tb_wdS, decide_eq_true (by omega), Bool.true_and, show 64 * (n / 64) + n % 64 = n by omega]
  rw [← hb]
  cases h : (wdS S (n / 64)).testBit (n % 64) with
  | true =>
    refine decide_eq_true fun e => ?_
    have e : wdS S (n / 64) &&& 2 ^ (n % 64) = 0 := by omega
    have := congrArg (fun x => x.testBit (n % 64)) e
    simp only [Nat.testBit_and, h, tb_pow, decide_true, Bool.and_self, Nat.zero_testBit] at this
    cases this
  | false =>
    refine decide_eq_false fun e => e ?_
    have : wdS S (n / 64) &&& 2 ^ (n % 64) = 0 := by
      refine Nat.eq_of_testBit_eq fun i => ?_
      rw [Nat.testBit_and, tb_pow, Nat.zero_testBit]
      by_cases hi : n % 64 = i
      · rw [← hi, h]; rfl
      · rw [decide_eq_false hi, Bool.and_false]
    rw [this]; rfl
/-- The words of the numbers below k. -/
theorem wd_bel (k i : Nat) : wdS (belS k) i = 2 ^ (min (k - 64 * i) 64) - 1 := by
  refine Nat.eq_of_testBit_eq fun j => ?_
  rw [tb_wdS, tb_bel, Nat.testBit_two_pow_sub_one]
  by_cases hj : j < 64
  · rw [decide_eq_true hj, Bool.true_and]; exact decide_eq_decide.2 (by omega)
  · rw [decide_eq_false hj, decide_eq_false (show ¬ j < min (k - 64 * i) 64 by omega)]; rfl
theorem bel_ok {k : Nat} (h : k ≤ 1024) : SetOk (belS k) := fun n hn => by rw [tb_bel, decide_eq_false (by omega)]
/-- The elements below a bound. -/
def elsN (S n : Nat) : List Int := ((List.range n).filter (fun n => S.testBit n)).map (fun n : Nat => (n : Int))
theorem els_N (S : Nat) : els S = elsN S 1024 := rfl
theorem elsN_zero (S : Nat) : elsN S 0 = [] := rfl
theorem elsN_succ (S n : Nat) : elsN S (n + 1) = if S.testBit n then elsN S n ++ [(n : Int)] else elsN S n := by
  unfold elsN
  rw [List.range_succ, List.filter_append, List.map_append]
  by_cases h : S.testBit n = true
  · rw [if_pos h, List.filter_cons_of_pos h, List.filter_nil, List.map_cons, List.map_nil]
  · rw [if_neg h, List.filter_cons_of_neg h, List.filter_nil, List.map_nil, List.append_nil]
theorem elsN_len (S n : Nat) : (elsN S n).length ≤ n := by
  unfold elsN
  rw [List.length_map]
  exact Nat.le_trans (List.length_filter_le _ _) (by rw [List.length_range]; exact Nat.le_refl _)
theorem els_le (S : Nat) : (els S).length ≤ 1024 := by
  have h := elsN_len S 1024
  rwa [← els_N] at h
/-- A bit of a word, shifted down. -/
theorem shr_bit (S n : Nat) : ((wdS S (n / 64) / 2 ^ (n % 64)) &&& 1 : Nat) = (S.testBit n).toNat := by
  have hb : (wdS S (n / 64)).testBit (n % 64) = S.testBit n := by
    rw [tb_wdS, decide_eq_true (by omega), Bool.true_and, show 64 * (n / 64) + n % 64 = n by omega]
  rw [← hb, Nat.toNat_testBit, Nat.and_one_is_mod]
/-- Sets of lists of numbers. -/
def ofS (l : List Int) : Nat := l.foldl wthS 0
theorem els_foldW (l : List Int) : ∀ S, els (l.foldl wthS S) = l.foldl withL (els S) := by
  induction l with
  | nil => intro S; rw [List.foldl_nil, List.foldl_nil]
  | cons x xs ih => intro S; rw [List.foldl_cons, List.foldl_cons, ih, els_wth]
theorem els_ofS (l : List Int) : els (ofS l) = ofL l := by unfold ofS ofL; rw [els_foldW, els_zero]
theorem ok_foldW (l : List Int) : ∀ {S}, SetOk S → SetOk (l.foldl wthS S) := by
  induction l with
  | nil => exact fun h => h
  | cons x xs ih => exact fun h => ih (ok_wth h)
theorem ok_ofS (l : List Int) : SetOk (ofS l) := ok_foldW l ok_zero
theorem setC_len (S : Nat) : (setC S).length = 16 := by rw [setC_aD]; exact aD_len _ _ _
theorem setC_keys (S : Nat) : keysOf (setC S) = none := rfl
theorem put_withL {S n : Nat} (hn : n < 1024) : List.take (0 + n / 64 * 1) (setC S) ++ [.flat (.int .u64 ((wdS S (n / 64) ||| 2 ^ (n % 64) : Nat)))] ++ List.drop (0 + n / 64 * 1 + 1) (setC S) = setC (S ||| 2 ^ n) := put_with hn
theorem put_withoutL {S n : Nat} (hn : n < 1024) : List.take (0 + n / 64 * 1) (setC S) ++ [.flat (.int .u64 ((wdS S (n / 64) ^^^ (wdS S (n / 64) &&& 2 ^ (n % 64)) : Nat)))] ++ List.drop (0 + n / 64 * 1 + 1) (setC S) = setC (minS S (2 ^ n)) := put_without hn
theorem drop_set (S V : Nat) : setC S ++ List.drop (0 + (setC S).length) (setC V) = setC S := by rw [Nat.zero_add, setC_len, List.drop_of_length_le (by rw [setC_len]; exact Nat.le_refl _), List.append_nil]
theorem z16 : ([.flat (.int .u64 0), .flat (.int .u64 0), .flat (.int .u64 0), .flat (.int .u64 0), .flat (.int .u64 0), .flat (.int .u64 0), .flat (.int .u64 0), .flat (.int .u64 0), .flat (.int .u64 0), .flat (.int .u64 0), .flat (.int .u64 0), .flat (.int .u64 0), .flat (.int .u64 0), .flat (.int .u64 0), .flat (.int .u64 0), .flat (.int .u64 0)] : List D) = setC 0 := by rw [setC_zero]; rfl
instance {S : Nat} : LoadD true 16 0 (setC S) (setD S) := ⟨setC_all S⟩
instance {S V : Nat} : SplD (setC S) 0 (setC V) (setC V) := ⟨by
  have h := drop_set V S
  unfold spliceD
  rw [List.take_zero, List.nil_append]; exact h⟩
instance {S : Nat} : ArrD (setC S) .u64 16 (fun i => ((wdS S i : Nat) : Int)) := ⟨setC_aD S⟩
instance {S : Nat} : PersL (setC S) := ⟨setC_pers S⟩
attribute [simp] setC_len setC_one setC_pers
attribute [irreducible] tlC
end Go.Bs
