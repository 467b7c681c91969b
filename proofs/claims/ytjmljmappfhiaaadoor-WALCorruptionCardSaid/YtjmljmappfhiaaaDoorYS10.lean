/- The law of concatenated logs. No condition. -/
import Derived.Test.YtjmljmappfhiaaaDoorYRc
import Derived.Test.YtjmljmappfhiaaaDoorYGv

set_option linter.unusedSimpArgs false
set_option linter.unusedVariables false
set_option maxHeartbeats 8000000
set_option maxRecDepth 8000
namespace Go.Proofs.YtjmljmappfhiaaaDoor
open Go Go.RowKit Go.PP Go.Dm

/-- A log of few short valid entries is short. -/
theorem good_small {l : List (Bs × Bs)} (h1 : (goodE (cutE l)).length ≤ 30) : (allW (goodE (cutE l))).length ≤ 30 * 260 := by
  have key : ∀ m : List (Bs × Bs), (∀ e ∈ m, e.1.length ≤ 32 ∧ e.2.length ≤ 200) → (allW m).length ≤ m.length * 260 := by
    intro m
    induction m with
    | nil => intro _; simp [allW]
    | cons e m ih =>
      intro h
      obtain ⟨a1, a2⟩ := h e (List.mem_cons_self ..)
      have := ih fun x hx => h x (List.mem_cons_of_mem _ hx)
      rw [allW_cons, List.length_append, encW_length, headE_len, List.length_cons]
      have := digs_short (n := e.2.length) (by omega)
      omega
  have := key (goodE (cutE l)) fun e he => by
    obtain ⟨a1, _, _⟩ := err_ok (good_ok e he)
    obtain ⟨x, hx, rfl⟩ := List.mem_map.1 (List.mem_filter.1 he).1
    refine ⟨a1, ?_⟩
    show (x.2.take 200).length ≤ 200
    rw [List.length_take]; omega
  omega
theorem law10_d (l m : List (Bs × Bs)) (hl : l.length ≤ 140737488351232) (hb : ∀ e ∈ l, e.1.length ≤ 140737488351232 ∧ e.2.length ≤ 140737488351232) (hl2 : m.length ≤ 140737488351232) (hb2 : ∀ e ∈ m, e.1.length ≤ 140737488351232 ∧ e.2.length ≤ 140737488351232) : DFun Tryd.prog 10 [entsD l, entsD m] (.flat (.bool true)) := by
  have hcut := cut_d l (by omega) (fun e he => by have := (hb e he).2; omega)
  have hcl := cut_small l
  have hcm := cut_mem (l := l) (fun e he => by have := (hb e he).1; omega)
  have hcut2 := cut_d m (by omega) (fun e he => by have := (hb2 e he).2; omega)
  have hcl2 := cut_small m
  have hcm2 := cut_mem (l := m) (fun e he => by have := (hb2 e he).1; omega)
  have hmade := made_d (cutE l) (by omega) hcm
  have hgl : (goodE (cutE l)).length ≤ 30 := Nat.le_trans (List.length_filter_le _ _) hcl
  have hal := good_small hgl
  have hsm := good_sm (l := cutE l) (by omega)
  have hok := good_ok (l := cutE l)
  have hmade2 := made_d (cutE m) (by omega) hcm2
  have hgl2 : (goodE (cutE m)).length ≤ 30 := Nat.le_trans (List.length_filter_le _ _) hcl2
  have hal2 := good_small hgl2
  have hsm2 := good_sm (l := cutE m) (by omega)
  have hok2 := good_ok (l := cutE m)
  generalize goodE (cutE l) = x at hmade hgl hal hsm hok
  generalize goodE (cutE m) = y at hmade2 hgl2 hal2 hsm2 hok2
  generalize cutE l = c at hcut hmade
  generalize cutE m = c2 at hcut2 hmade2
  have hrec : Rec (allW x ++ allW y) (x ++ y) := by
    rw [← allW_app]
    exact rec_all fun e he => by rcases List.mem_append.1 he with h | h; exact hok e h; exact hok2 e h
  have h34 := recover_d (allW x ++ allW y) (by rw [List.length_append]; omega) (x ++ y) hrec
  have hlen : (allW (x ++ y)).length = (allW x ++ allW y).length := by rw [allW_app]
  rw [if_neg (by omega)] at h34
  have hB : bytesD (allW x ++ allW y) = .sl false 1 ((allW x).length + (allW y).length) (bD (allW x) ++ bD (allW y)) := by
    unfold bytesD bD
    rw [List.length_append, List.map_append]
  rw [hB] at h34
  have h20l := bytesL_l x hsm
  have h20 := bytesL_d y hsm2
  have hpx := entsC_pers x
  have hpy := entsC_pers y
  have hpa := bD_pers (allW x)
  have hpb := bD_pers (allW y)
  have hpab : persL (bD (allW x) ++ bD (allW y)) = true := by rw [show bD (allW x) ++ bD (allW y) = bD (allW x ++ allW y) by unfold bD; rw [List.map_append]]; exact bD_pers _
  have hll : (x ++ y).length = x.length + y.length := List.length_append
  have h19 := entries_d (x ++ y) (by omega)
  have h18 := to_d (x ++ y) (by omega)
  have h17 := same_d (x ++ y) (x ++ y) (by omega) (by omega)
  rw [decide_eq_true rfl] at h17
  have hE : entsD (x ++ y) = .sl false 2 (0 + x.length + y.length) ([] ++ entsC x ++ entsC y) := by
    unfold entsD entsC
    rw [List.flatMap_append, List.length_append, Nat.zero_add, List.nil_append]
  have h17' : DFun Tryd.prog 17 [entsD (x ++ y), .sl false 2 (0 + x.length + y.length) ([] ++ entsC x ++ entsC y)] (.flat (.bool true)) := by rw [← hE]; exact h17
  clear h17
  have hpe : persL ([] ++ entsC x ++ entsC y) = true := by rw [show [] ++ entsC x ++ entsC y = entsC (x ++ y) by simp [entsC]]; exact entsC_pers _
  have h16 := known_d
  have hd1 : decide (((allW (x ++ y)).length : Int) = ((allW x).length : Int) + ((allW y).length : Int)) = true := decide_eq_true (by rw [hlen, List.length_append]; omega)
  generalize hz : x ++ y = z at h34 h19 h18 h17' hd1 hll
  have o64 := OwnAt.of 64
  have ho1 := entsC_one x
  have ho2 := entsC_one y
  refine DFun.enterA Tryd.func10 Tryd.ntmps10 ?_
  refine DW.walk ?_
  refine DC.t (T.giveRow EntC.h h34 hpab) ⟨rfl, trivial⟩ ⟨rfl, trivial⟩ ?_
  have h20x := bytesL_d x hsm
  refine DC.walk ?_
  exact ⟨.inr rfl, ResOk.one [] rfl rfl trivial (Vw.pers rfl)⟩
end Go.Proofs.YtjmljmappfhiaaaDoor
