/- Contracts over data: the reference, Cmp, Same. No condition. -/
import Derived.Test.YtgcmajgkcahbnaaDoorXSl
import Derived.Test.YtgcmajgkcahbnaaDoorYB1
import Derived.Test.YtgcmajgkcahbnaaDoorYAT

set_option linter.unusedSimpArgs false
set_option linter.unusedVariables false
set_option maxHeartbeats 4000000
set_option maxRecDepth 8000
namespace Go.Proofs.YtgcmajgkcahbnaaDoor
open Go Go.RowKit Go.PP Go.Dm Go.Bs
theorem cmpL_snoc (a b : List Int) (x y : Int) : cmpL (a ++ [x]) (b ++ [y]) = if x > y then 1 else if x < y then -1 else cmpL a b := by
  unfold cmpL
  rw [List.reverse_append, List.reverse_append]; rfl
theorem cmpL_nil : cmpL [] [] = 0 := rfl
theorem cmpL_l (a : List Int) (x : Int) : cmpL (a ++ [x]) [] = 1 := by unfold cmpL; rw [List.reverse_append]; rfl
theorem cmpL_r (a : List Int) (x : Int) : cmpL [] (a ++ [x]) = -1 := by unfold cmpL; rw [List.reverse_append]; rfl
theorem take_snoc {l : List Int} {i : Nat} {x : Int} (h : l[i]? = some x) : l.take (i + 1) = l.take i ++ [x] := by rw [List.take_add_one, h]; rfl
theorem rcmp_d (a b : List Int) (ha : a.length ≤ 1000000) (hb : b.length ≤ 1000000) : DFun Tryd.prog 36 [intsD a, intsD b] (.flat (.int .i64 (cmpL a b))) := by
  refine DFun.enterA Tryd.func36 Tryd.ntmps36 ?_
  refine DW.walk ?_
  refine DW.loopA (fun p : Nat × Nat => ⟨[(0, intsD a), (1, intsD b), (5, .flat (.int .i64 ((p.1 : Int) - 1))), (6, .flat (.int .i64 ((p.2 : Int) - 1)))], []⟩) (fun p => p.1 ≤ a.length ∧ p.2 ≤ b.length ∧ cmpL a b = cmpL (a.take p.1) (b.take p.2)) (fun p => p.1) (a.length, b.length) ?_ ⟨Nat.le_refl _, Nat.le_refl _, by rw [List.take_length, List.take_length]⟩
  rintro ⟨i, k⟩ ⟨hi, hk, hc⟩
  simp only at hi hk hc ⊢
  generalize cmpL a b = R at *
  cases i with
  | zero =>
    rw [show (((0 : Nat) : Int) - 1) = -1 from rfl]
    cases k with
    | zero =>
      rw [show (((0 : Nat) : Int) - 1) = -1 from rfl]
      rw [List.take_zero, List.take_zero, cmpL_nil] at hc
      subst hc
      refine DW.walk ?_
      exact ⟨.inr rfl, ResOk.one [] rfl rfl trivial (Vw.pers rfl)⟩
    | succ k =>
      rw [show (((k + 1 : Nat) : Int) - 1) = (k : Int) by omega]
      obtain ⟨y, hy⟩ : ∃ y, b[k]? = some y := ⟨b[k], by simp⟩
      rw [List.take_zero, take_snoc hy, cmpL_r] at hc
      subst hc
      refine DW.walk ?_
      exact ⟨.inr rfl, ResOk.one [] rfl rfl trivial (Vw.pers rfl)⟩
  | succ i =>
    rw [show (((i + 1 : Nat) : Int) - 1) = (i : Int) by omega]
    obtain ⟨x, hx⟩ : ∃ x, a[i]? = some x := ⟨a[i], by simp⟩
    cases k with
    | zero =>
      rw [show (((0 : Nat) : Int) - 1) = -1 from rfl]
      rw [List.take_zero, take_snoc hx, cmpL_l] at hc
      subst hc
      refine DW.walk ?_
      exact ⟨.inr rfl, ResOk.one [] rfl rfl trivial (Vw.pers rfl)⟩
    | succ k =>
      rw [show (((k + 1 : Nat) : Int) - 1) = (k : Int) by omega]
      obtain ⟨y, hy⟩ : ∃ y, b[k]? = some y := ⟨b[k], by simp⟩
      have h0 := part_map (f := fun x => D.flat (.int .i64 x)) hx
      have h1 := part_map (f := fun x => D.flat (.int .i64 x)) hy
      rw [take_snoc hx, take_snoc hy, cmpL_snoc] at hc
      rcases Int.lt_trichotomy x y with h | h | h
      · rw [if_neg (by omega), if_pos h] at hc
        subst hc
        refine DW.walk ?_
        exact ⟨.inr rfl, ResOk.one [] rfl rfl trivial (Vw.pers rfl)⟩
      · rw [if_neg (by omega), if_neg (by omega)] at hc
        refine DW.walk ?_
        exact ⟨(i, k), ⟨by show i ≤ _; omega, by show k ≤ _; omega, hc⟩, by show i < i + 1; omega, Sub.auto⟩
      · rw [if_pos h] at hc
        subst hc
        refine DW.walk ?_
        exact ⟨.inr rfl, ResOk.one [] rfl rfl trivial (Vw.pers rfl)⟩
theorem rsame_d (a b : List Int) (ha : a.length ≤ 1000000) (hb : b.length ≤ 1000000) (h1 : Asc a) (h2 : Asc b) : DFun Tryd.prog 18 [intsD a, intsD b] (.flat (.bool (decide (a = b)))) := by
  have h3 := rcmp_d a b ha hb
  have e : decide (a = b) = decide (cmpL a b = 0) := decide_eq_decide.2 (cmpL_self h1 h2).symm
  rw [e]
  generalize cmpL a b = R at *
  refine DFun.enterA Tryd.func18 Tryd.ntmps18 ?_
  refine DW.walk ?_
  exact ⟨.inr rfl, ResOk.one [] rfl rfl trivial (Vw.pers rfl)⟩
end Go.Proofs.YtgcmajgkcahbnaaDoor
