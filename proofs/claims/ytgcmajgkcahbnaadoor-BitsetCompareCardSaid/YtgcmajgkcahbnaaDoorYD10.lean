/- Contracts over data: the reference, lists of sets, compared. No condition. -/
import Derived.Test.YtgcmajgkcahbnaaDoorXSl
import Derived.Test.YtgcmajgkcahbnaaDoorYB1
import Derived.Test.YtgcmajgkcahbnaaDoorYAT
import Derived.Test.YtgcmajgkcahbnaaDoorYD8

set_option linter.unusedSimpArgs false
set_option linter.unusedVariables false
set_option maxHeartbeats 4000000
set_option maxRecDepth 8000
namespace Go.Proofs.YtgcmajgkcahbnaaDoor
open Go Go.RowKit Go.PP Go.Dm Go.Bs
theorem cmpfunc_d (a b : List Nat) (ha : a.length ≤ 1000) (hb : b.length ≤ 1000) (h1 : ∀ x ∈ a, SetOk x) (h2 : ∀ x ∈ b, SetOk x) : DFun Tryd.prog 59 [setsD a, setsD b, .clo (.func 35) [] []] (.flat (.int .i64 (cmpSs a b))) := by
  refine DFun.enterA Tryd.func59 Tryd.ntmps59 ?_
  refine DW.walk ?_
  refine DW.loopA (fun j : Nat => ⟨[(0, setsD a), (1, setsD b), (2, .clo (.func 35) [] []), (11, setsD a), (12, .flat (.int .i64 a.length)), (13, .flat (.int .i64 j))], []⟩) (fun j => j ≤ a.length ∧ j ≤ b.length ∧ cmpSs a b = cmpSs (a.drop j) (b.drop j)) (fun j => a.length - j) 0 ?_ ⟨Nat.zero_le _, Nat.zero_le _, rfl⟩
  rintro j ⟨hi, hk, hc⟩
  generalize cmpSs a b = R at *
  rcases Nat.lt_or_ge j a.length with hlt | hge
  · obtain ⟨x, hx⟩ : ∃ x, a[j]? = some x := ⟨a[j], by simp⟩
    have p1 := part_sets hx
    rcases Nat.lt_or_ge j b.length with hlt2 | hge2
    · obtain ⟨y, hy⟩ : ∃ y, b[j]? = some y := ⟨b[j], by simp⟩
      have p2 := part_sets hy
      have h3 := compare_d x y (h1 x (List.mem_of_getElem? hx)) (h2 y (List.mem_of_getElem? hy))
      rw [drop_one hx, drop_one hy] at hc
      change R = if cmpN x y = 0 then cmpSs (a.drop (j + 1)) (b.drop (j + 1)) else cmpN x y at hc
      clear h1 h2
      by_cases he : cmpN x y = 0
      · rw [if_pos he] at hc
        rw [he] at h3
        clear he
        refine DW.walk ?_
        refine DC.t (T.callCA (first := []) (cap := []) (ds := [setD x, setD y]) EntC.h h3 rfl (PersL.h (cs := [setD x, setD y])) rfl) ⟨rfl, rfl, rfl, trivial⟩ trivial ?_
        refine DC.walk ?_
        exact ⟨j + 1, ⟨by omega, by omega, hc⟩, by omega, Sub.auto⟩
      · rw [if_neg he] at hc
        rw [hc]
        clear hc
        generalize cmpN x y = q at *
        refine DW.walk ?_
        refine DC.t (T.callCA (first := []) (cap := []) (ds := [setD x, setD y]) EntC.h h3 rfl (PersL.h (cs := [setD x, setD y])) rfl) ⟨rfl, rfl, rfl, trivial⟩ trivial ?_
        refine DC.walk ?_
        exact ⟨.inr rfl, ResOk.one [] rfl rfl trivial (Vw.pers rfl)⟩
    · have hje : j = b.length := by omega
      rw [hje, List.drop_length, ← hje, drop_one hx] at hc
      change R = 1 at hc
      subst hc
      clear h1 h2
      refine DW.walk ?_
      exact ⟨.inr rfl, ResOk.one [] rfl rfl trivial (Vw.pers rfl)⟩
  · have hje : j = a.length := by omega
    rcases Nat.lt_or_ge j b.length with hlt2 | hge2
    · obtain ⟨y, hy⟩ : ∃ y, b[j]? = some y := ⟨b[j], by simp⟩
      rw [hje, List.drop_length, ← hje, drop_one hy] at hc
      change R = -1 at hc
      subst hc
      clear h1 h2
      refine DW.walk ?_
      exact ⟨.inr rfl, ResOk.one [] rfl rfl trivial (Vw.pers rfl)⟩
    · rw [List.drop_of_length_le hge, List.drop_of_length_le hge2] at hc
      change R = 0 at hc
      subst hc
      clear h1 h2
      refine DW.walk ?_
      exact ⟨.inr rfl, ResOk.one [] rfl rfl trivial (Vw.pers rfl)⟩
theorem cmpslices_d (a b : List Nat) (ha : a.length ≤ 1000) (hb : b.length ≤ 1000) (h1 : ∀ x ∈ a, SetOk x) (h2 : ∀ x ∈ b, SetOk x) : DFun Tryd.prog 37 [setsD a, setsD b] (.flat (.int .i64 (cmpSs a b))) := by
  have h : DFun Tryd.prog 59 [setsD a, setsD b, .flat (.func (.func 35) #[] #[])] (.flat (.int .i64 (cmpSs a b))) := (cmpfunc_d a b ha hb h1 h2).le (LeL.cons (Le.refl _) (LeL.cons (Le.refl _) (LeL.cons Le.fn LeL.nil))) (Le.refl _)
  clear h1 h2
  refine DFun.enterA Tryd.func37 Tryd.ntmps37 ?_
  refine DW.walk ?_
  exact ⟨.inr rfl, ResOk.one [] rfl rfl trivial (Vw.pers rfl)⟩
end Go.Proofs.YtgcmajgkcahbnaaDoor
