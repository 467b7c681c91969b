/- Contract of the reference's check of an automaton. Condition: an automaton in memory. -/
import Derived.Test.YtdakoccbmeojhaaWb
set_option linter.unusedSimpArgs false
set_option linter.unusedVariables false
set_option maxHeartbeats 400000
namespace Go.Proofs.Ytdakoccbmeojhaa
open Go Go.RowKit Go.PP

set_option maxRecDepth 8000 in
set_option maxHeartbeats 4000000 in
theorem rcheck_any (v1 v2 v3 : Value) (A : Au) (w : World) (hA : AuIn (fun _ => False) w v1 v2 v3 A) : Calls Try.prog 21 #[.agg #[v1, v2, v3]] w (RetPost w (.int .i64 (chk A : Nat))) := by
  have hA0 := Lib.hid hA
  obtain ⟨a1, c1, a2, c2, a3, c3, rfl, rfl, rfl, l1, l2, l3⟩ := hA.open
  clear hA
  have hm := (Mut.refl (fun _ => False) w).alloc (.cells #[.slice a1 A.ranks.length c1, .slice a2 A.final.length c2, .slice a3 A.to.length c3] 26)
  have hB := Lib.hid (BoxA.mk' w (.slice a1 A.ranks.length c1) (.slice a2 A.final.length c2) (.slice a3 A.to.length c3) 26)
  have hr := Lib.hid (hA0.out.r.fix hm)
  replace hm := Lib.hid hm
  by_cases h1 : alphaE A.ranks = 0
  rotate_left
  · rw [chk_alpha h1]
    have hne : ((alphaE A.ranks : Int) != 0) = true := by simp; exact h1
    have hc := Lib.hid (ralpha_any _ A.ranks _ hr.out)
    generalize alphaE A.ranks = E at *
    clear h1
    go_enter Try.func21, Try.ntmps21
    go_wp2_with fail
    refine hc.out.mono ?_
    rintro e w1 ⟨rfl, rfl⟩
    go_wp2
    go_ret
    exact ⟨rfl, hm.out⟩
  have hc := Lib.hid (ralpha_good _ A.ranks _ hr.out h1)
  have h1h := Lib.hid h1
  clear h1
  by_cases h2 : 1 ≤ A.final.length ∧ A.final.length ≤ 512
  rotate_left
  · rw [chk_size h1h.out (by omega)]
    rcases (show A.final.length < 1 ∨ (1 ≤ A.final.length ∧ 512 < A.final.length) by omega) with h3 | ⟨h3, h4⟩
    · have hd : decide ((A.final.length : Int) < 1) = true := by simp; omega
      clear h2
      go_enter Try.func21, Try.ntmps21
      go_wp2_with fail
      refine hc.out.mono ?_
      rintro e w1 ⟨rfl, rfl⟩
      go_wp2
      go_ret
      exact ⟨rfl, hm.out⟩
    · have hd : decide ((A.final.length : Int) < 1) = false := by simp; omega
      clear h2
      go_enter Try.func21, Try.ntmps21
      go_wp2_with fail
      refine hc.out.mono ?_
      rintro e w1 ⟨rfl, rfl⟩
      go_wp2
      go_ret
      exact ⟨rfl, hm.out⟩
  obtain ⟨h2, h3⟩ := h2
  have hd : decide ((A.final.length : Int) < 1) = false := by simp; omega
  by_cases h4 : A.to.length = A.ranks.length
  rotate_left
  · rw [chk_len h1h.out ⟨h2, h3⟩ h4]
    have hd4 : ((A.to.length : Int) != (A.ranks.length : Int)) = true := by simp; omega
    go_enter Try.func21, Try.ntmps21
    go_wp2_with fail
    refine hc.out.mono ?_
    rintro e w1 ⟨rfl, rfl⟩
    go_wp2
    go_ret
    exact ⟨rfl, hm.out⟩
  have hd4 : ((A.to.length : Int) != (A.ranks.length : Int)) = false := by simp; omega
  have h4h := Lib.hid h4
  clear h4
  have hok := Lib.hid (alphaE_ok h1h.out)
  generalize hC : chk A = C
  replace hC := Lib.hid hC
  go_enter Try.func21, Try.ntmps21
  go_wp2_with fail
  refine hc.out.mono ?_
  rintro e w1 ⟨rfl, rfl⟩
  clear hc hr
  generalize (w.alloc (.cells #[.slice a1 A.ranks.length c1, .slice a2 A.final.length c2, .slice a3 A.to.length c3] 26)) = w1 at *
  have hA1 := Lib.hid (hA0.out.fix hm.out)
  obtain ⟨k0, k1, k2⟩ := hB.out
  go_wp2
  go_loopw [5] (fun i wr => ∃ j : Nat, j ≤ A.to.length ∧ i = .int .i64 j ∧ (∀ (i : Nat) l k, i < j → A.to[i]? = some l → A.ranks[i]? = some k → l.length = wideN k A.final.length) ∧ Fix w1 wr) (fun i _ => A.to.length - (intOf i).toNat)
  case atStart => exact ⟨0, by omega, rfl, fun i l k h => by omega, Mut.refl _ _⟩
  case round =>
    obtain ⟨j, hj, rfl, hall, hmr⟩ := hrel
    replace hall := Lib.hid hall
    obtain ⟨k0', k1', k2'⟩ := hB.out.fix hmr
    by_cases hlt : j < A.to.length
    · obtain ⟨b, off, ra, rc, xs, rfl, hx, hxl, hcx, hrow⟩ := hA1.out.t.row (Mut.refl _ w1) hlt
      obtain ⟨b2, off2, k, rfl, hk, hck⟩ := hA1.out.r.slot (Mut.refl _ w1) (k := j) (by rw [← h4h.out]; exact hlt)
      have hk2 := hok.out.rng k (List.mem_of_getElem? hk)
      have hjr : j < A.ranks.length := by rw [← h4h.out]; exact hlt
      replace hx := Lib.hid hx
      replace hk := Lib.hid hk
      clear hrow
      have hS := Lib.hid (show Fix w1 wr.drew from hmr.drew)
      replace hmr := Lib.hid hmr
      have hne := Cls.ne hS.out
      by_cases hw : xs.length = wideN k A.final.length
      · have ht : ((xs.length : Int) != ((wideN k A.final.length : Nat) : Int)) = false := by simp [hw]
        have hwh := Lib.hid hw
        clear hw
        go_wp2
        refine wp_plan (Fix w1) [0, 1, 2, 3, 4, 5, 6, 7, 8] [([0, 1, 2, 3, 4, 5, 6, 7], some 8)] [9] (by kernel_rfl) (by kernel_rfl) ?_
        refine ⟨Of.mk hS.out, ?_⟩
        simp only [wpPlan, pickOps_cons, pickOps_nil, List.getElem?_cons_zero, List.getElem?_cons_succ, pickOp_some]
        have s0 := fun x : Cls (Fix w1) => x.ok.cell k0 (by simp)
        have s1 := fun x : Cls (Fix w1) => x.ok.cell k1 (by simp)
        have s2 := fun x : Cls (Fix w1) => x.ok.cell k2 (by simp)
        have s3 := fun x : Cls (Fix w1) => x.ok.cell hcx (by simp)
        repeat (go_big_quiet_step (fail))
        refine wpQuiet_nil ?_
        clear s0 s1 s2 s3
        go_wp2_with fail
        refine (places_any _ _ _ A j k _ (hA1.out.fix hS.out) hk.out hk2 h3).mono ?_
        rintro e w4 ⟨rfl, hm4⟩
        have hS4 := Lib.hid (hS.out.trans hm4)
        clear hm4
        go_wp2
        refine ⟨fun _ => Of.mk hS4.out, ?_⟩
        go_wp2
        refine NoPanic.normal ?_
        go_wp2
        go_roundw
        case rel => exact ⟨j + 1, by omega, by go_num, fun i l k' hij hl hk' => by
          rcases Nat.lt_or_ge i j with e | e
          · exact hall.out i l k' e hl hk'
          · obtain rfl : i = j := by omega
            rw [hx.out] at hl; rw [hk.out] at hk'; cases hl; cases hk'; exact hwh.out, hS4.out⟩
        case measure => simp [intOf]; omega
      · have ht : ((xs.length : Int) != ((wideN k A.final.length : Nat) : Int)) = true := by simp; omega
        have hC3 : C = 3 := by rw [← hC.out]; exact chk_wide h1h.out ⟨h2, h3⟩ h4h.out hx.out hk.out hw
        subst hC3
        clear hw
        go_wp2
        refine wp_plan (Fix w1) [0, 1, 2, 3, 4, 5, 6, 7, 8] [([0, 1, 2, 3, 4, 5, 6, 7], some 8)] [9] (by kernel_rfl) (by kernel_rfl) ?_
        refine ⟨Of.mk hS.out, ?_⟩
        simp only [wpPlan, pickOps_cons, pickOps_nil, List.getElem?_cons_zero, List.getElem?_cons_succ, pickOp_some]
        have s0 := fun x : Cls (Fix w1) => x.ok.cell k0 (by simp)
        have s1 := fun x : Cls (Fix w1) => x.ok.cell k1 (by simp)
        have s2 := fun x : Cls (Fix w1) => x.ok.cell k2 (by simp)
        have s3 := fun x : Cls (Fix w1) => x.ok.cell hcx (by simp)
        repeat (go_big_quiet_step (fail))
        refine wpQuiet_nil ?_
        clear s0 s1 s2 s3
        go_wp2_with fail
        refine (places_any _ _ _ A j k _ (hA1.out.fix hS.out) hk.out hk2 h3).mono ?_
        rintro e w4 ⟨rfl, hm4⟩
        have hS4 := Lib.hid (hS.out.trans hm4)
        clear hm4
        go_wp2
        refine ⟨fun _ => Of.mk hS4.out, ?_⟩
        go_wp2
        refine NoPanic.normal ?_
        go_wp2
        go_ret
        exact ⟨rfl, hm.out.trans hS4.out⟩
    · obtain rfl : j = A.to.length := by omega
      have hrest := Lib.hid (chk_rest h1h.out ⟨h2, h3⟩ h4h.out (fun i l k q1 q2 => hall.out i l k (List.getElem?_eq_some_iff.1 q1).1 q1 q2))
      replace hmr := Lib.hid hmr
      clear hall
      go_wp2
      generalize hwq : wr = wq at *
      clear hwq
      replace hm := Lib.hid (hm.out.trans hmr.out)
      have hA2 := Lib.hid (hA1.out.fix hmr.out)
      go_loop [6, 7] (fun i _ => ∃ j : Nat, j ≤ A.to.length ∧ i = .int .i64 j ∧ (∀ (i : Nat) l, i < j → A.to[i]? = some l → ∀ s ∈ l, ¬ (s < 0 ∨ (A.final.length : Int) ≤ s))) (fun i _ => A.to.length - (intOf i).toNat)
      case atStart => exact ⟨0, by omega, rfl, fun i l h => by omega⟩
      case round =>
        obtain ⟨j, hj, rfl, hall⟩ := hrel
        replace hall := Lib.hid hall
        by_cases hlt : j < A.to.length
        · obtain ⟨b, off, ra, rc, xs, rfl, hx, hxl, hcx, hrow⟩ := hA2.out.t.row (Mut.refl _ _) hlt
          replace hx := Lib.hid hx
          replace hrow := Lib.hid hrow
          go_wp2
          go_loop [7] (fun i => ∃ m : Nat, m ≤ xs.length ∧ i = .int .i64 m ∧ (∀ (i : Nat) s, i < m → xs[i]? = some s → ¬ (s < 0 ∨ (A.final.length : Int) ≤ s))) (fun i => xs.length - (intOf i).toNat)
          case atStart => exact ⟨0, by omega, rfl, fun i l h => by omega⟩
          case round =>
            obtain ⟨m, hm', rfl, hall2⟩ := hrel
            replace hall2 := Lib.hid hall2
            by_cases hml : m < xs.length
            · obtain ⟨b3, off3, s, rfl, hs, hcs⟩ := hrow.out.slot (Mut.refl _ _) hml
              replace hs := Lib.hid hs
              by_cases hs0 : s < 0
              · have hC2 : C = 2 := by
                  rw [← hC.out]
                  exact hrest.out.1 ⟨xs, List.mem_of_getElem? hx.out, s, List.mem_of_getElem? hs.out, .inl hs0⟩
                subst hC2
                go_wp2
                go_ret
                exact ⟨rfl, hm.out⟩
              · have hdn : decide (s < 0) = false := by simp; omega
                by_cases hs1 : (A.final.length : Int) ≤ s
                · have hC2 : C = 2 := by
                    rw [← hC.out]
                    exact hrest.out.1 ⟨xs, List.mem_of_getElem? hx.out, s, List.mem_of_getElem? hs.out, .inr hs1⟩
                  subst hC2
                  go_wp2
                  go_ret
                  exact ⟨rfl, hm.out⟩
                · go_wp2
                  go_round
                  case rel => exact ⟨m + 1, by omega, by go_num, fun i z him hz => by
                    rcases Nat.lt_or_ge i m with e | e
                    · exact hall2.out i z e hz
                    · obtain rfl : i = m := by omega
                      rw [hs.out] at hz; cases hz; omega⟩
                  case measure => simp [intOf]; omega
            · obtain rfl : m = xs.length := by omega
              have hno : ∀ s ∈ xs, ¬ (s < 0 ∨ (A.final.length : Int) ≤ s) := fun s hs => by
                obtain ⟨i, hi⟩ := List.getElem?_of_mem hs
                exact hall2.out i s (List.getElem?_eq_some_iff.1 hi).1 hi
              replace hno := Lib.hid hno
              clear hall2
              go_wp2
              go_round
              case rel => exact ⟨j + 1, by omega, by go_num, fun i l hij hl => by
                rcases Nat.lt_or_ge i j with e | e
                · exact hall.out i l e hl
                · obtain rfl : i = j := by omega
                  rw [hx.out] at hl; cases hl; exact hno.out⟩
              case measure => simp [intOf]; omega
        · obtain rfl : j = A.to.length := by omega
          have hC0 : C = 0 := by
            rw [← hC.out]
            exact hrest.out.2 (fun j l hl s hs => hall.out j l (List.getElem?_eq_some_iff.1 hl).1 hl s hs)
          subst hC0
          go_wp2
          go_ret
          exact ⟨rfl, hm.out⟩
end Go.Proofs.Ytdakoccbmeojhaa
