/- Contracts over data: the reference, From. No condition. -/
import Derived.Test.YtgcmajgkcahbnaaDoorXSl
import Derived.Test.YtgcmajgkcahbnaaDoorYB1
import Derived.Test.YtgcmajgkcahbnaaDoorYAT

set_option linter.unusedSimpArgs false
set_option linter.unusedVariables false
set_option maxHeartbeats 4000000
set_option maxRecDepth 8000
namespace Go.Proofs.YtgcmajgkcahbnaaDoor
open Go Go.RowKit Go.PP Go.Dm Go.Bs
theorem put_from {S n : Nat} (hn : n < 1024) : List.take (0 + n / 64 * 1) (setC S) ++ [.flat (.int .u64 ((wdS S (n / 64) ||| (1 * 2 ^ (n % 64) % 18446744073709551616) : Nat)))] ++ List.drop (0 + n / 64 * 1 + 1) (setC S) = setC (S ||| 2 ^ n) := by
  rw [Nat.one_mul, Nat.mod_eq_of_lt (pow_mod_lt n)]; exact put_withL hn
theorem from_d (l : List Int) (hl : l.length ≤ 1000000) : DFun Tryd.prog 17 [intsD l] (setD (fromL l)) := by
  refine DFun.enterA Tryd.func17 Tryd.ntmps17 ?_
  refine DW.walk ?_
  refine DW.loopA (fun j : Nat => ⟨[(0, intsD l), (2, .ref 2 0), (3, .ref 3 0), (4, .flat (.int .i64 j))], [(3, some (.box (setC ((l.take j).foldl fromF 0)))), (2, some (.box (setC 0)))]⟩) (fun j => j ≤ l.length) (fun j => l.length - j) 0 ?_ (by omega)
  intro j hj
  rcases Nat.lt_or_ge j l.length with hlt | hge
  · obtain ⟨x, hx⟩ : ∃ x, l[j]? = some x := ⟨l[j], by simp⟩
    have h0 := part_map (f := fun x => D.flat (.int .i64 x)) hx
    have h2 : (l.take (j + 1)).foldl fromF 0 = fromF ((l.take j).foldl fromF 0) x := by
      rw [List.take_add_one, hx, Option.toList_some, List.foldl_append]; rfl
    generalize (l.take j).foldl fromF 0 = X at *
    by_cases hc : 0 ≤ x ∧ x < 1024
    · obtain ⟨n, rfl⟩ : ∃ n : Nat, x = n := ⟨x.toNat, by omega⟩
      have h3 : fromF X (n : Int) = X ||| 2 ^ n := by unfold fromF; rw [if_pos hc, Int.toNat_natCast]
      rw [h3] at h2
      have hn : n < 1024 := by omega
      have h1 := setC_get X (i := n / 64) (by omega)
      have ha := wdS_lt X (n / 64)
      have hcs := put_from (S := X) hn
      have hq := quo64n n hn
      have hr := rem64n n
      generalize X ||| 2 ^ n = Y at *
      generalize wdS X (n / 64) = a at *
      refine DW.walk ?_
      refine ⟨j + 1, by omega, by omega, ?_⟩
      rw [hcs, h2]
      exact Sub.auto
    · have h3 : fromF X x = X := by unfold fromF; rw [if_neg hc]
      rw [h3] at h2
      rcases Int.lt_or_le x 0 with h5 | h5
      · refine DW.walk ?_
        refine ⟨j + 1, by omega, by omega, ?_⟩
        rw [h2]
        exact Sub.auto
      · refine DW.walk ?_
        refine ⟨j + 1, by omega, by omega, ?_⟩
        rw [h2]
        exact Sub.auto
  · have hje : j = l.length := by omega
    subst hje
    rw [List.take_length]
    refine DW.walk ?_
    exact ⟨.inr rfl, ResOk.cellA [] rfl rfl rfl ag24 (by rw [setC_len]; exact sz24) trivial (VwL.pers (setC_pers _)) (Le.refl _)⟩
end Go.Proofs.YtgcmajgkcahbnaaDoor
