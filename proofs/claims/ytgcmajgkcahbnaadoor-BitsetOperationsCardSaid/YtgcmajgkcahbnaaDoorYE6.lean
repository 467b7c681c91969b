/- The law of the operations, over data. No condition. -/
import Derived.Test.YtgcmajgkcahbnaaDoorXSl
import Derived.Test.YtgcmajgkcahbnaaDoorYB3
import Derived.Test.YtgcmajgkcahbnaaDoorYC7
import Derived.Test.YtgcmajgkcahbnaaDoorYD1
import Derived.Test.YtgcmajgkcahbnaaDoorYD3
import Derived.Test.YtgcmajgkcahbnaaDoorYD6
import Derived.Test.YtgcmajgkcahbnaaDoorYD7

set_option linter.unusedSimpArgs false
set_option linter.unusedVariables false
set_option maxHeartbeats 16000000
set_option maxRecDepth 8000
namespace Go.Proofs.YtgcmajgkcahbnaaDoor
open Go Go.RowKit Go.PP Go.Dm Go.Bs
noncomputable abbrev code6 : Code := Tryd.f6.body.getD .skip
/-- The reference agrees. -/
theorem same_els (a : Nat) (l : List Int) (h : els a = l) : DFun Tryd.prog 18 [intsD (els a), intsD l] (.flat (.bool true)) := by
  subst h
  have hl := els_le a
  have := rsame_d (els a) (els a) (by omega) (by omega) (asc_els a) (asc_els a)
  rwa [decide_eq_true rfl] at this
theorem part6a {cc : Code} (hsel : selC [1, 1, 0, 0] code6 = some cc) (a b : Nat) (n : Int) (x y : List Int) (hx : els a = x) :
    DW Tryd.prog 74 cc ⟨[(3, .ref 3 0), (4, .ref 4 0), (2, .flat (.int .i64 n)), (7, intsD x), (8, intsD y)], [(3, some (.box (setC a))), (4, some (.box (setC b)))]⟩ (fun e s => e = .normal ∧ Sub 74 s ⟨[(3, .ref 3 0), (4, .ref 4 0), (2, .flat (.int .i64 n)), (7, intsD x), (8, intsD y), (32, .flat (.bool false))], [(3, some (.box (setC a))), (4, some (.box (setC b)))]⟩) := by
  have hl := els_le a
  rw [hx] at hl
  have h1 := with_d a n
  have h2 := to_d (wthS a n)
  have h3 := rwith_d x n (by omega)
  have h4 := same_els (wthS a n) (withL x n) (by rw [els_wth, hx])
  have h5 := without_d a n
  have h6 := to_d (wtoS a n)
  have h7 := rwithout_d x n (by omega)
  have h8 := same_els (wtoS a n) (x.filter fun z => decide (z ≠ n)) (by rw [els_wto, hx]; rfl)
  generalize wthS a n = A1 at *
  generalize wtoS a n = A2 at *
  generalize withL x n = X1 at *
  generalize (x.filter fun z => decide (z ≠ n)) = X2 at *
  generalize els A1 = L1 at *
  generalize els A2 = L2 at *
  clear hx hl
  refine DW.sel hsel (by rfl) ?_
  refine DW.walk ?_
  exact ⟨rfl, Sub.auto⟩
theorem part6b {cc : Code} (hsel : selC [1, 1, 1, 0, 0] code6 = some cc) (a b : Nat) (x y : List Int) (hx : els a = x) (hy : els b = y) :
    DW Tryd.prog 74 cc ⟨[(3, .ref 3 0), (4, .ref 4 0), (7, intsD x), (8, intsD y)], [(3, some (.box (setC a))), (4, some (.box (setC b)))]⟩ (fun e s => e = .normal ∧ Sub 74 s ⟨[(3, .ref 3 0), (4, .ref 4 0), (7, intsD x), (8, intsD y), (63, .flat (.bool false))], [(3, some (.box (setC a))), (4, some (.box (setC b)))]⟩) := by
  have hl := els_le a
  have hl2 := els_le b
  rw [hx] at hl
  rw [hy] at hl2
  have h1 := inter_d a b
  have h2 := to_d (a &&& b)
  have h3 := rand_d x y (by omega) (by omega)
  have h4 := same_els (a &&& b) (x.filter fun z => decide (z ∈ y)) (by rw [els_and, hx, hy]; rfl)
  have h5 := union_d a b
  have h6 := to_d (a ||| b)
  have h7 := ror_d x y (by omega) (by omega)
  have h8 := same_els (a ||| b) (orL x y) (by rw [els_or, hx, hy])
  have i1 := minus_d a b
  have i2 := to_d (minS a b)
  have i3 := rminus_d x y (by omega) (by omega)
  have i4 := same_els (minS a b) (x.filter fun z => decide (¬ z ∈ y)) (by rw [els_minS, hx, hy]; rfl)
  generalize a &&& b = A1 at *
  generalize a ||| b = A2 at *
  generalize minS a b = A3 at *
  generalize orL x y = X2 at *
  generalize (x.filter fun z => decide (z ∈ y)) = X1 at *
  generalize (x.filter fun z => decide (¬ z ∈ y)) = X3 at *
  generalize els A1 = L1 at *
  generalize els A2 = L2 at *
  generalize els A3 = L3 at *
  clear hx hl hy hl2
  refine DW.sel hsel (by rfl) ?_
  refine DW.walk ?_
  exact ⟨rfl, Sub.auto⟩
theorem law6_d (a b : Nat) (n : Int) (ha : SetOk a) (hb : SetOk b) : DFun Tryd.prog 6 [setD a, setD b, .flat (.int .i64 n)] (.flat (.bool true)) := by
  have h1 := to_d a
  have h2 := to_d b
  have hK := known_d
  have hl := els_le a
  have hl2 := els_le b
  have h3 := subset_d a b ha
  have h4 := rwithin_d (els a) (els b) (by omega) (by omega)
  have e : decide (minusL (els a) (els b) = []) = decide (minS a b = 0) := decide_eq_decide.2 (within_nil ha hb)
  rw [e] at h4
  have hp6a := fun (cc : Code) (h : selC [1, 1, 0, 0] code6 = some cc) => part6a h a b n (els a) (els b) rfl
  have hp6b := fun (cc : Code) (h : selC [1, 1, 1, 0, 0] code6 = some cc) => part6b h a b (els a) (els b) rfl rfl
  generalize els a = x at *
  generalize els b = y at *
  generalize decide (minS a b = 0) = q at *
  clear e hl hl2
  refine DFun.enterA Tryd.func6 Tryd.ntmps6 ?_
  refine DW.walkTo 2 ?_
  refine DW.cut _ (DW.sub Sub.auto (hp6a _ (by rfl))) ?_
  refine DW.walkTo 4 ?_
  refine DW.cut _ (DW.sub Sub.auto (hp6b _ (by rfl))) ?_
  cases q with
  | true =>
    refine DW.walk ?_
    exact ⟨.inr rfl, ResOk.one [] rfl rfl trivial (Vw.pers rfl)⟩
  | false =>
    refine DW.walk ?_
    exact ⟨.inr rfl, ResOk.one [] rfl rfl trivial (Vw.pers rfl)⟩
end Go.Proofs.YtgcmajgkcahbnaaDoor
