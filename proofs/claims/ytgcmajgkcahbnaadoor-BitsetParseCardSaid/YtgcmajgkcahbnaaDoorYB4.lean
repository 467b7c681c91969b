/- Contracts over data: sets of numbers, Below and Of. No condition. -/
import Derived.Test.YtgcmajgkcahbnaaDoorYB1
import Derived.Test.YtgcmajgkcahbnaaDoorYAV

set_option linter.unusedSimpArgs false
set_option linter.unusedVariables false
set_option maxHeartbeats 4000000
set_option maxRecDepth 8000
namespace Go.Proofs.YtgcmajgkcahbnaaDoor
open Go Go.RowKit Go.PP Go.Dm Go.Bs
def clampN (z : Int) : Nat := (max 0 (min z 1024)).toNat
theorem shl_sub {q : Nat} (h : q ≤ 64) : IntKind.u64.wrap (((1 * 2 ^ q % 18446744073709551616 : Nat) : Int) - 1) = ((2 ^ q - 1 : Nat) : Int) := by
  rw [Nat.one_mul]
  by_cases e : q = 64
  · subst e; decide
  · have h1 : 2 ^ q ≤ 2 ^ 63 := Nat.pow_le_pow_right (by decide) (by omega)
    have h2 : 0 < 2 ^ q := Nat.pow_pos (by decide)
    have h3 : (2 : Nat) ^ 63 = 9223372036854775808 := by decide
    rw [Nat.mod_eq_of_lt (by omega)]
    generalize 2 ^ q = p at *
    exact (wu64 (by omega) (by omega)).trans (by omega)
theorem below_d (z : Int) : DFun Tryd.prog 48 [.flat (.int .i64 z)] (setD (belS (clampN z))) := by
  have hm1 : (if (1024 : Int) < z then 1024 else z) = min z 1024 := by omega
  have hm2 : (if min z 1024 > 0 then min z 1024 else 0) = ((clampN z : Nat) : Int) := by unfold clampN; omega
  have hk : clampN z ≤ 1024 := by unfold clampN; omega
  generalize clampN z = k at *
  generalize min z 1024 = m at *
  refine DFun.enterA Tryd.func48 Tryd.ntmps48 ?_
  refine DW.walk ?_
  rw [← mix_zero 0 (belS k)]
  refine DW.loopA (fun j : Nat => ⟨[(0, .flat (.int .i64 k)), (2, .ref 2 0), (3, .ref 3 0), (8, .flat (.int .i64 j))], [(3, some (.box (setC (mixS 0 (belS k) j)))), (2, some (.box (setC (mixS 0 (belS k) 0))))]⟩) (fun j => j ≤ 16) (fun j => 16 - j) 0 ?_ (by omega)
  intro j hj
  rcases Nat.lt_or_ge j 16 with hlt | hge
  · have h1 := mix_put 0 (belS k) hlt (wd_bel k j)
    have hq2 : (if (64 : Int) < (k : Int) - 64 * (j : Int) then 64 else (k : Int) - 64 * (j : Int)) = min ((k : Int) - 64 * (j : Int)) 64 := by omega
    have hq : (if min ((k : Int) - 64 * (j : Int)) 64 > 0 then min ((k : Int) - 64 * (j : Int)) 64 else 0) = ((min (k - 64 * j) 64 : Nat) : Int) := by omega
    have h3 : min (k - 64 * j) 64 ≤ 64 := by omega
    have h2 := shl_sub h3
    generalize min ((k : Int) - 64 * (j : Int)) 64 = y at *
    generalize min (k - 64 * j) 64 = q at *
    generalize mixS 0 (belS k) j = X at *
    generalize hY : mixS 0 (belS k) (j + 1) = Y at *
    have h4 : 2 ^ q - 1 < 18446744073709551616 := by
      have h1 : 2 ^ q ≤ 2 ^ 64 := Nat.pow_le_pow_right (by decide) (by omega)
      omega
    refine DW.walk ?_
    rw [h1, ← hY]
    exact ⟨j + 1, by omega, by omega, Sub.auto⟩
  · have hje : j = 16 := by omega
    subst hje
    rw [mix_all]
    refine DW.walk ?_
    exact ⟨.inr rfl, ResOk.cellA [] rfl rfl rfl ag24 (by rw [setC_len]; exact sz24) trivial (VwL.pers (setC_pers _)) (Le.refl _)⟩
theorem of_d (l : List Int) (hl : l.length ≤ 1000000) : DFun Tryd.prog 42 [intsD l] (setD (ofS l)) := by
  refine DFun.enterA Tryd.func42 Tryd.ntmps42 ?_
  refine DW.walk ?_
  refine DW.loopA (fun j : Nat => ⟨[(2, .ref 2 0), (3, .ref 3 0), (6, intsD l), (7, .flat (.int .i64 l.length)), (8, .flat (.int .i64 j))], [(3, some (.box (setC (ofS (l.take j))))), (2, some (.box (setC 0)))]⟩) (fun j => j ≤ l.length) (fun j => l.length - j) 0 ?_ (by omega)
  intro j hj
  rcases Nat.lt_or_ge j l.length with hlt | hge
  · obtain ⟨x, hx⟩ : ∃ x, l[j]? = some x := ⟨l[j], by simp⟩
    have h1 := with_d (ofS (l.take j)) x
    have h0 := map_at (f := fun x => D.flat (.int .i64 x)) hx
    have h2 : wthS (ofS (l.take j)) x = ofS (l.take (j + 1)) := by
      unfold ofS
      rw [List.take_add_one, hx, Option.toList_some, List.foldl_append]; rfl
    rw [h2] at h1
    generalize ofS (l.take j) = X at *
    generalize hY : ofS (l.take (j + 1)) = Y at *
    refine DW.walk ?_
    rw [← hY]
    exact ⟨j + 1, by omega, by omega, Sub.auto⟩
  · have hje : j = l.length := by omega
    subst hje
    rw [List.take_length]
    refine DW.walk ?_
    exact ⟨.inr rfl, ResOk.cellA [] rfl rfl rfl ag24 (by rw [setC_len]; exact sz24) trivial (VwL.pers (setC_pers _)) (Le.refl _)⟩
end Go.Proofs.YtgcmajgkcahbnaaDoor
