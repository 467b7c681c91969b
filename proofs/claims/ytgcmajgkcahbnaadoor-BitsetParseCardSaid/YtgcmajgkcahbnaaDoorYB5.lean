/- Contracts over data: the least element. No condition. -/
import Derived.Test.YtgcmajgkcahbnaaDoorYA
import Derived.Test.YtgcmajgkcahbnaaDoorYAV
import Derived.Test.YtgcmajgkcahbnaaDoorYBK

set_option linter.unusedSimpArgs false
set_option linter.unusedVariables false
set_option maxHeartbeats 4000000
set_option maxRecDepth 8000
namespace Go.Proofs.YtgcmajgkcahbnaaDoor
open Go Go.RowKit Go.PP Go.Dm Go.Bs
theorem ctz_lst {x : Nat} (h0 : x ≠ 0) (h : x < 18446744073709551616) : Lst x (Lib.ctz 64 x) ∧ Lib.ctz 64 x < 64 := by
  obtain ⟨m, hm, hk⟩ := Lib.ctzFrom_spec 64 x (by omega) h
  have e : Lib.ctz 64 x = Lib.ctzFrom 64 x := by simp [Lib.ctz, h0]
  rw [e]
  generalize Lib.ctzFrom 64 x = k at *
  refine ⟨⟨?_, fun j hj => ?_⟩, hk⟩
  · rw [hm, Nat.testBit_two_pow_mul, decide_eq_true (Nat.le_refl k), Nat.sub_self, Nat.testBit_zero]
    exact decide_eq_true (by omega)
  · rw [hm, Nat.testBit_two_pow_mul, decide_eq_false (by omega)]; rfl
theorem lst_uniq {S a b : Nat} (h1 : Lst S a) (h2 : Lst S b) : a = b := by
  rcases Nat.lt_trichotomy a b with h | h | h
  · have := h1.1; rw [h2.2 a h] at this; cases this
  · exact h
  · have := h2.1; rw [h1.2 b h] at this; cases this
theorem min_c (S i : Nat) (hi : i < 16) (h0 : ∀ j, j < i → wdS S j = 0) (h1 : wdS S i ≠ 0) : DFun Tryd.prog 44 [setD S] (.tup [.flat (.int .i64 ((64 * i + Lib.ctz 64 (wdS S i) : Nat) : Int)), .flat (.bool true)]) := by
  have htz := tz_d (wdS S i) (wdS_lt S i)
  have hk := (ctz_lst h1 (wdS_lt S i)).2
  refine DFun.enterA Tryd.func44 Tryd.ntmps44 ?_
  refine DW.walk ?_
  refine DW.loopA (fun j : Nat => ⟨[(2, .flat (.int .i64 0)), (3, .flat (.bool false)), (6, setD S), (7, .flat (.int .i64 j))], [(1, some (.box (setC S)))]⟩) (fun j => j ≤ i) (fun j => i - j) 0 ?_ (by omega)
  intro j hj
  rcases Nat.lt_or_ge j i with hlt | hge
  · have hz := h0 j hlt
    have h5 : ((wdS S j : Nat) : Int) = 0 := by omega
    clear h0 htz
    refine DW.walk ?_
    exact ⟨j + 1, by omega, by omega, Sub.auto⟩
  · have hje : j = i := by omega
    subst hje
    have h5 : ((wdS S j : Nat) : Int) ≠ 0 := by omega
    clear h0
    refine DW.walk ?_
    exact ⟨.inr rfl, ResOk.two [] rfl rfl rfl trivial (Vw.pers rfl) (Vw.pers rfl)⟩
theorem min_0 : DFun Tryd.prog 44 [setD 0] (.tup [.flat (.int .i64 0), .flat (.bool false)]) := by
  refine DFun.enterA Tryd.func44 Tryd.ntmps44 ?_
  refine DW.walk ?_
  refine DW.loopA (fun j : Nat => ⟨[(2, .flat (.int .i64 0)), (3, .flat (.bool false)), (6, setD 0), (7, .flat (.int .i64 j))], [(1, some (.box (setC 0)))]⟩) (fun j => j ≤ 16) (fun j => 16 - j) 0 ?_ (by omega)
  intro j hj
  rcases Nat.lt_or_ge j 16 with hlt | hge
  · have h5 : ((wdS 0 j : Nat) : Int) = 0 := by rw [wd_zero]; rfl
    refine DW.walk ?_
    exact ⟨j + 1, by omega, by omega, Sub.auto⟩
  · have hje : j = 16 := by omega
    subst hje
    refine DW.walk ?_
    exact ⟨.inr rfl, ResOk.two [] rfl rfl rfl trivial (Vw.pers rfl) (Vw.pers rfl)⟩
theorem min_d (S n : Nat) (hn : n < 1024) (h : Lst S n) : DFun Tryd.prog 44 [setD S] (.tup [.flat (.int .i64 n), .flat (.bool true)]) := by
  have h0 : ∀ j, j < n / 64 → wdS S j = 0 := fun j hj => by
    refine Nat.eq_of_testBit_eq fun i => ?_
    rw [tb_wdS, Nat.zero_testBit]
    by_cases hi : i < 64
    · rw [decide_eq_true hi, Bool.true_and]; exact h.2 _ (by omega)
    · rw [decide_eq_false hi]; rfl
  have h1 : wdS S (n / 64) ≠ 0 := fun e => by
    have := congrArg (fun x => x.testBit (n % 64)) e
    simp only [tb_wdS, Nat.zero_testBit, decide_eq_true (show n % 64 < 64 by omega), Bool.true_and, show 64 * (n / 64) + n % 64 = n by omega, h.1] at this
    cases this
  obtain ⟨h2, h3⟩ := ctz_lst h1 (wdS_lt S _)
  have h4 := lst_uniq (lst_of_wd h3 h0 h2) h
  have h5 := min_c S (n / 64) (by omega) h0 h1
  rwa [h4] at h5
end Go.Proofs.YtgcmajgkcahbnaaDoor
