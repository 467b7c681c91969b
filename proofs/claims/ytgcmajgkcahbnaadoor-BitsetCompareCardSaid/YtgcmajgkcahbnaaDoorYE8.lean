/- The law of the comparisons, over data. No condition. -/
import Derived.Test.YtgcmajgkcahbnaaDoorXSl
import Derived.Test.YtgcmajgkcahbnaaDoorYC7
import Derived.Test.YtgcmajgkcahbnaaDoorYD8
import Derived.Test.YtgcmajgkcahbnaaDoorYD9
import Derived.Test.YtgcmajgkcahbnaaDoorYD10

set_option linter.unusedSimpArgs false
set_option linter.unusedVariables false
set_option maxHeartbeats 16000000
set_option maxRecDepth 8000
namespace Go.Proofs.YtgcmajgkcahbnaaDoor
open Go Go.RowKit Go.PP Go.Dm Go.Bs
noncomputable abbrev code8 : Code := Tryd.f8.body.getD .skip
theorem sets_take : ∀ (n : Nat) (l : List Nat), (l.flatMap setC).take (n * 16) = (l.take n).flatMap setC
  | 0, l => by rw [Nat.zero_mul, List.take_zero, List.take_zero]; rfl
  | n + 1, [] => by simp
  | n + 1, S :: l => by
    rw [List.flatMap_cons, List.take_succ_cons, List.flatMap_cons, show (n + 1) * 16 = (setC S).length + n * 16 by rw [setC_len]; omega, List.take_length_add_append]
    exact congrArg _ (sets_take n l)
theorem tail8 {cc : Code} (hsel : selC [1, 1, 1, 0] code8 = some cc) (a b : Nat) (ha : SetOk a) (hb : SetOk b) (l m : List Nat) (k1 k2 : Nat) (e1 : l.length = k1) (e2 : m.length = k2) (hl : l.length ≤ 20) (hm : m.length ≤ 20) (hl2 : ∀ x ∈ l, SetOk x) (hm2 : ∀ x ∈ m, SetOk x) :
    DW Tryd.prog 42 cc ⟨[(2, .sl false 16 k1 (setsC l)), (3, .sl false 16 k2 (setsC m)), (4, .ref 4 0), (5, .ref 5 0)], [(4, some (.box (setC a))), (5, some (.box (setC b)))]⟩
    (Thn (fun s' => DW Tryd.prog 42 .ret s' (QF Tryd.prog Tryd.f8 (.flat (.bool true)))) (QF Tryd.prog Tryd.f8 (.flat (.bool true)))) := by
  subst e1; subst e2
  have hK := known_d
  have h1 := compare_d a b ha hb
  have h2 := to_d a
  have h3 := to_d b
  have l1 := els_le a
  have l2 := els_le b
  have h4 := rcmp_d (els a) (els b) (by omega) (by omega)
  rw [cmp_els ha hb] at h4
  have h5 := cmpslices_d l m (by omega) (by omega) hl2 hm2
  have h6 := lists_d l (by omega)
  have h7 := lists_d m (by omega)
  have h8 := cmplists_d (l.map els) (m.map els) (by rw [List.length_map]; omega) (by rw [List.length_map]; omega) (fun x hx => by
    obtain ⟨S, _, rfl⟩ := List.mem_map.1 hx
    have := els_le S; omega) (fun x hx => by
    obtain ⟨S, _, rfl⟩ := List.mem_map.1 hx
    have := els_le S; omega)
  rw [cmpSs_els l m hl2 hm2] at h8
  generalize cmpSs l m = q at *
  generalize cmpN a b = p at *
  generalize els a = x at *
  generalize els b = y at *
  generalize l.map els = X at *
  generalize m.map els = Y at *
  clear l1 l2 hl2 hm2
  refine DW.sel hsel (by rfl) ?_
  have e : (D.flat (.bool (decide (q = q)))) = .flat (.bool true) := by rw [decide_eq_true rfl]
  refine DW.walk ?_
  exact ⟨.inr rfl, ResOk.one [] rfl rfl trivial (Vw.le (Vw.pers rfl) (Le.of_eq e))⟩
theorem law8_d (a b : Nat) (l m : List Nat) (ha : SetOk a) (hb : SetOk b) (hl : l.length ≤ 140737488351232) (hl2 : ∀ x ∈ l, SetOk x) (hm : m.length ≤ 140737488351232) (hm2 : ∀ x ∈ m, SetOk x) : DFun Tryd.prog 8 [setD a, setD b, setsD l, setsD m] (.flat (.bool true)) := by
  have cut : ∀ l : List Nat, (setsC l).take (20 * 16) = setsC (l.take 20) := fun l => by unfold setsC; exact sets_take 20 l
  have tk : ∀ l : List Nat, (∀ x ∈ l, SetOk x) → ∀ x ∈ l.take 20, SetOk x := fun l h x hx => h x (List.mem_of_mem_take hx)
  refine DFun.enterA Tryd.func8 Tryd.ntmps8 ?_
  have t20 : ∀ l : List Nat, 20 < l.length → (l.take 20).length = 20 := fun l h => by rw [List.length_take]; omega
  rcases Nat.lt_or_ge 20 l.length with h1 | h1
  · rcases Nat.lt_or_ge 20 m.length with h2 | h2
    · have tl := fun (cc : Code) (h : selC [1, 1, 1, 0] code8 = some cc) => tail8 h a b ha hb (l.take 20) (m.take 20) _ _ (t20 l h1) (t20 m h2) (by rw [t20 l h1]; exact Nat.le_refl _) (by rw [t20 m h2]; exact Nat.le_refl _) (tk l hl2) (tk m hm2)
      rw [← cut l, ← cut m] at tl
      clear hl2 hm2 cut tk t20
      refine DW.walkTo 5 ?_
      exact DW.sub Sub.auto (tl _ (by rfl))
    · have tl := fun (cc : Code) (h : selC [1, 1, 1, 0] code8 = some cc) => tail8 h a b ha hb (l.take 20) m _ _ (t20 l h1) rfl (by rw [t20 l h1]; exact Nat.le_refl _) h2 (tk l hl2) hm2
      rw [← cut l] at tl
      clear hl2 hm2 cut tk t20
      refine DW.walkTo 5 ?_
      exact DW.sub Sub.auto (tl _ (by rfl))
  · rcases Nat.lt_or_ge 20 m.length with h2 | h2
    · have tl := fun (cc : Code) (h : selC [1, 1, 1, 0] code8 = some cc) => tail8 h a b ha hb l (m.take 20) _ _ rfl (t20 m h2) h1 (by rw [t20 m h2]; exact Nat.le_refl _) hl2 (tk m hm2)
      rw [← cut m] at tl
      clear hl2 hm2 cut tk t20
      refine DW.walkTo 5 ?_
      exact DW.sub Sub.auto (tl _ (by rfl))
    · have tl := fun (cc : Code) (h : selC [1, 1, 1, 0] code8 = some cc) => tail8 h a b ha hb l m _ _ rfl rfl h1 h2 hl2 hm2
      clear hl2 hm2 cut tk t20
      refine DW.walkTo 5 ?_
      exact DW.sub Sub.auto (tl _ (by rfl))
end Go.Proofs.YtgcmajgkcahbnaaDoor
