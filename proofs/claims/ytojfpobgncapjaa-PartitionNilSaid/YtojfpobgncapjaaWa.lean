/- The closure in head returns the least element of a block. Condition: a partition in memory. -/
import Derived.Test.YtojfpobgncapjaaBase
set_option linter.unusedSimpArgs false
set_option linter.unusedVariables false
set_option maxHeartbeats 400000
namespace Go.Proofs.Ytojfpobgncapjaa
open Go Go.RowKit Go.PP

theorem head1 (fuel : Nat) : ∀ (a : Nat) (w : World) (p u n bc bf : Nat) (R : List Int), a < fuel → a < n → Part w p u n R → bc ≠ u → bf ≠ u →
    w.cell? ⟨bc, 0, none⟩ = some (.pointer (some ⟨p, 0, none⟩)) →
    w.cell? ⟨bf, 0, none⟩ = some (.func (.func 49) #[] #[.pointer (some ⟨bc, 0, none⟩), .pointer (some ⟨bf, 0, none⟩)]) →
    Calls Try.prog 49 #[.int .i64 a, .pointer (some ⟨bc, 0, none⟩), .pointer (some ⟨bf, 0, none⟩)] w (HeadPost w p u n R a) := by
  induction fuel with
  | zero => intro a w p u n bc bf R h; omega
  | succ fuel ih =>
    intro a w p u n bc bf R hf ha hP hbc hbf hc1 hc2
    obtain ⟨j, c, hj, hcu, hfu, hcp, hup, hRj, hroot, hwf⟩ := hP.cellU ha
    have hsm := hP.small
    replace hP := Lib.hid hP
    replace hRj := Lib.hid hRj
    replace hroot := Lib.hid hroot
    replace ih := Lib.hid ih
    by_cases hja : j = a
    · have ht : ((j : Int) != (a : Int)) = false := by simp [hja]
      replace hja := Lib.hid hja
      go_enter Try.func49, Try.ntmps49
      go_wp2
      go_ret
      exact ⟨j, rfl, by rw [hroot.out hja.out, hja.out], hj, hP.out, Mut.refl _ _, hcu, fun _ _ => rfl⟩
    · have ht : ((j : Int) != (a : Int)) = true := by simp; omega
      have hlt : j < a := by omega
      clear hja
      go_enter Try.func49, Try.ntmps49
      go_wp2
      have hS : HeadS bc p bf u n c w.drew := ⟨by simpa using hc1, by simpa using hcp, by simpa using hc2⟩
      have hne := Cls.ne hS
      replace hS := Lib.hid hS
      refine wp_plan (HeadS bc p bf u n c) (List.range 14) [([0,1,2,3,4,5,6,7,8,9,10,11], some 12), ([], some 13)] [14, 15] (by kernel_rfl) (by kernel_rfl) ?_
      refine ⟨Of.mk hS.out, ?_⟩
      simp only [pickOps_cons, pickOps_nil, List.getElem?_cons_zero, List.getElem?_cons_succ, pickOp_some]
      have s1 := fun x : Cls (HeadS bc p bf u n c) => x.ok.h1
      have s2 := fun x : Cls (HeadS bc p bf u n c) => x.ok.h2
      have s3 := fun x : Cls (HeadS bc p bf u n c) => x.ok.h3
      repeat (go_big_quiet_step (fail))
      refine wpQuiet_nil ?_
      go_wp2
      refine ⟨fun _ => Of.mk hS.out, Of.mk hS.out, ?_⟩
      simp only [pickOps_cons, pickOps_nil, List.getElem?_cons_zero, List.getElem?_cons_succ, pickOp_some]
      refine wpQuiet_nil ?_
      go_wp2_with fail
      refine (ih.out j _ p u n bc bf R (by omega) (by omega) (by exact hP.out.drew) hbc hbf (by simpa using hc1) (by simpa using hc2)).mono ?_
      rintro e w1 ⟨r, rfl, hr, hrj, hP1, hm, hcr, hkeep⟩
      have hS1 : HeadS bc p bf u n c w1 := ⟨hm.cell (by simpa using hc1) hbc, hm.cell (by simpa using hcp) hup.symm, hm.cell (by simpa using hc2) hbf⟩
      have q5 := hP1.frozenU ha
      have q4 : w1.cell? ⟨u, a, none⟩ = some (.int .i64 j) := (hkeep a hlt).trans hcu
      have hst := Lib.hid (hP1.set ha (r := r) (by rw [← hRj.out, hr]))
      replace hr := Lib.hid hr
      replace hkeep := Lib.hid hkeep
      replace hP1 := Lib.hid hP1
      replace hm := Lib.hid hm
      go_wp2
      refine ⟨fun _ => Of.mk hS1, ?_⟩
      clear s1 s2 s3
      simp only [wpPlan, pickOps_cons, pickOps_nil, List.getElem?_cons_zero, List.getElem?_cons_succ, pickOp_some]
      go_wp2
      refine NoPanic.normal ?_
      have hcu2 : (w1.setCell ⟨u, a, none⟩ (.int .i64 r)).cell? ⟨u, a, none⟩ = some (.int .i64 r) := by go_simp
      have hcp2 : (w1.setCell ⟨u, a, none⟩ (.int .i64 r)).cell? ⟨p, 0, none⟩ = some (.slice (some ⟨u, 0, none⟩) n c) := by rw [cell_set_far hup]; exact hS1.h2
      have hbc2 : (w1.setCell ⟨u, a, none⟩ (.int .i64 r)).cell? ⟨bc, 0, none⟩ = some (.pointer (some ⟨p, 0, none⟩)) := by rw [cell_set_far hbc.symm]; exact hS1.h1
      go_wp2
      go_ret
      exact ⟨r, rfl, by rw [← hRj.out, hr.out], by omega, hst.out, (((Mut.refl _ w).drew.trans hm.out).setCell (p := ⟨u, a, none⟩) (fun _ => rfl) _), hcu2, fun i hi => by rw [cell_set_other (by omega)]; exact hkeep.out i (by omega)⟩
end Go.Proofs.Ytojfpobgncapjaa
