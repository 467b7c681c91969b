/- The law of truncation. No condition. -/
import Derived.Test.YtjmljmappfhiaaaDoorYT8l
import Derived.Test.YtjmljmappfhiaaaDoorYT8c

set_option linter.unusedSimpArgs false
set_option linter.unusedVariables false
set_option maxHeartbeats 8000000
set_option maxRecDepth 8000
namespace Go.Proofs.YtjmljmappfhiaaaDoor
open Go Go.RowKit Go.PP Go.Dm

theorem law8_d (l : List (Bs × Bs)) (z : Int) (hl : l.length ≤ 140737488351232) (hb : ∀ e ∈ l, e.1.length ≤ 140737488351232 ∧ e.2.length ≤ 140737488351232) (hz0 : 0 ≤ z) (hz1 : z ≤ 65535) : DFun Tryd.prog 8 [entsD l, .flat (.int .u16 z)] (.flat (.bool true)) := by
  have hcut := cut_d l (by omega) (fun e he => by have := (hb e he).2; omega)
  have hcl := cut_small l
  have hcm := cut_mem (l := l) (fun e he => by have := (hb e he).1; omega)
  have hmade := made_d (cutE l) (by omega) hcm
  have hgl : (goodE (cutE l)).length ≤ 30 := Nat.le_trans (List.length_filter_le _ _) hcl
  have hal := good_small hgl
  have hsm := good_sm (l := cutE l) (by omega)
  have hok := good_ok (l := cutE l)
  generalize goodE (cutE l) = w at hmade hgl hal hsm hok
  generalize cutE l = c at hcut hmade
  have h20 := bytesL_d w hsm
  obtain ⟨a, rfl⟩ : ∃ a : Nat, z = a := ⟨z.toNat, by omega⟩
  obtain ⟨k, hk, hkl⟩ : ∃ k : Nat, (a : Int).tmod (((allW w).length : Int) + 1) = k ∧ k ≤ (allW w).length := by
    refine ⟨a % ((allW w).length + 1), ?_, ?_⟩
    · rw [show (((allW w).length : Int) + 1) = (((allW w).length + 1 : Nat) : Int) by push_cast; rfl]
      exact remN _ _
    · have := Nat.mod_lt a (show 0 < (allW w).length + 1 by omega)
      omega
  obtain ⟨q, hq1, hq2, hq3, hq4⟩ := rec_trunc k hok hkl
  have hkt : ((allW w).take k).length = k := by rw [List.length_take]; omega
  have h34 := recover_d ((allW w).take k) (by omega) (w.take q) hq4
  rw [← take_sl (allW w) k hkl, hkt] at h34
  have hql : (w.take q).length = q := by rw [List.length_take]; omega
  have h22 := len_d (w.take q) (by omega)
  have h19 := entries_d (w.take q) (by omega)
  rw [hql] at h22
  have h16 := known_d
  have htq : ∀ i, i < q → ((w.take q)[i]? = w[i]?) := fun i hi => by rw [List.getElem?_take, if_pos hi]
  generalize ho : w.take q = o at h34 h22 h19 hql hq2 htq
  have hmono : ∀ i, i < q → (allW (w.take (i + 1))).length ≤ k := fun i hi => Nat.le_trans (allW_mono w (show i + 1 ≤ q by omega)) (by rw [ho]; exact hq2)
  have hnk : (allW o).length ≤ k := hq2
  generalize hal2 : (allW o).length = n at h34 hnk
  have hfin : decide (((if n < k then 19 else 0 : Int)) = 0) = decide ((n : Int) = (k : Int)) := by
    by_cases h : n < k
    · rw [if_pos h, decide_eq_false (by decide), decide_eq_false (by omega)]
    · rw [if_neg h, decide_eq_true rfl, decide_eq_true (by omega)]
  obtain ⟨S, hS1, hS2⟩ : ∃ S : Nat → Int, (∀ i, i ≤ q → S i = (((allW (w.take i)).length : Nat) : Int)) ∧ (∀ i, q < i → S i = 1099511627776) :=
    ⟨fun i => if i ≤ q then (((allW (w.take i)).length : Nat) : Int) else 1099511627776, fun i hi => if_pos hi, fun i hi => if_neg (by omega)⟩
  have hS0 : (0 : Int) = S 0 := by rw [hS1 0 (by omega)]; rfl
  have hwl30 : w.length ≤ 30 := hgl
  have hol : o.length ≤ 30 := by rw [hql]; have := hsm; omega
  have hkb : k ≤ 10000 := by omega
  have key : ∀ {c : Code}, selC [1, 1, 1, 1, 1, 1, 1, 1, 1, 0, 1, 2] code8 = some c → DW Tryd.prog 132 c (st8 w o k n (if n < k then 19 else 0) 0 0) (Blk 0 (fun e s => e = .normal ∧ Sub 132 s (st8 w o k n (if n < k then 19 else 0) (S w.length) w.length))) := by
    intro c hsel
    exact loop8 hsel w o k n _ S hwl30 hol hkb hS0.symm (fun i hi => by
      obtain ⟨e, he⟩ : ∃ e, w[i]? = some e := ⟨w[i], by simp⟩
      obtain ⟨e1, e2⟩ := hsm.2 e (List.mem_of_getElem? he)
      have hby := bytesN_d e e1 e2
      rw [← encW_eq] at hby
      have hw := allW_take he
      have hwl : (allW (w.take (i + 1))).length = (allW (w.take i)).length + (encW e).length := by rw [hw]; simp
      have hzl := encW_len e e1 e2
      have hal3 := allW_mono w (show i + 1 ≤ w.length by omega)
      rw [List.take_length] at hal3
      refine ⟨e, encW e, he, by omega, hby, ?_⟩
      rcases Nat.lt_trichotomy i q with hc | hc | hc
      · have hm := hmono i hc
        refine .inl ⟨(htq i hc).trans he, by rw [hS1 i (by omega)]; omega, by rw [hS1 i (by omega)]; omega, ?_, ?_⟩
        · rw [hS1 i (by omega)]; omega
        · rw [hS1 (i + 1) (by omega), hS1 i (by omega), hwl]; push_cast; rfl
      · have hgt : k < (allW (w.take (i + 1))).length := by
          rcases hq3 with h | h
          · omega
          · rw [hc]; exact h
        refine .inr ⟨by omega, by rw [hS1 i (by omega)]; omega, by rw [hS1 i (by omega)]; omega, ?_, hS2 (i + 1) (by omega)⟩
        rw [hS1 i (by omega)]; omega
      · refine .inr ⟨by omega, by rw [hS2 i (by omega)]; omega, by rw [hS2 i (by omega)]; omega, ?_, hS2 (i + 1) (by omega)⟩
        rw [hS2 i (by omega)]; omega)
  refine DFun.enterA Tryd.func8 Tryd.ntmps8 ?_
  refine DW.walk ?_
  refine DW.cutB (st8 w o k n (if n < k then 19 else 0) (S w.length) w.length) (DW.sub Sub.auto (key rfl)) ?_
  exact tail8 rfl w o k n _ hnk hkb hwl30 h16
end Go.Proofs.YtjmljmappfhiaaaDoor
