/- Contract of same: at a partition and a reference list that agree it returns true. Condition: a partition in memory. -/
import Derived.Test.YtojfpobgncapjaaWn
set_option linter.unusedSimpArgs false
set_option linter.unusedVariables false
set_option maxHeartbeats 400000
namespace Go.Proofs.Ytojfpobgncapjaa
open Go Go.RowKit Go.PP

def NumPost (w : World) (p u n : Nat) (R : List Int) (e : Ending) (w' : World) : Prop :=
  e = .returned (.int .i64 (rowsTo R n).length) ∧ Part w' p u n R ∧ Mut (· = u) w w'

theorem numblocks_any (w : World) (p u n : Nat) (R : List Int) (hP : Part w p u n R) : Calls Try.prog 24 #[.pointer (some ⟨p, 0, none⟩)] w (NumPost w p u n R) := by
  go_enter Try.func24, Try.ntmps24
  go_wp2_with fail
  refine (blocks_any w p u n R hP).mono ?_
  rintro e w1 ⟨v, rfl, hv, hP1, hm⟩
  obtain ⟨a, c, rfl, -, -⟩ := (hv (fun _ => False) (by simp)).open
  have H := Lib.hid (show NumPost w p u n R (.returned (.int .i64 (rowsTo R n).length)) w1 from ⟨rfl, hP1, hm⟩)
  clear hv hP1 hm hP
  go_wp2
  go_ret
  exact H.out

structure SameS (w0 : World) (p u n : Nat) (R : List Int) (v : Value) (b off k : Nat) (x : Int) (w : World) : Prop where
  part : Part w p u n R
  ints : Ints (· = u) w v R
  mu : Mut (· = u) w0 w
  cell : w.cell? ⟨b, off + k, none⟩ = some (.int .i64 x)

def SamePost (w : World) (p u n : Nat) (R : List Int) (v : Value) (e : Ending) (w' : World) : Prop :=
  e = .returned (.bool true) ∧ Part w' p u n R ∧ Ints (· = u) w' v R ∧ Mut (· = u) w w'

set_option maxHeartbeats 4000000 in
theorem psame_true (w : World) (p u n : Nat) (R : List Int) (v : Value) (hP : Part w p u n R) (hv : Ints (· = u) w v R) : Calls Try.prog 20 #[.pointer (some ⟨p, 0, none⟩), v] w (SamePost w p u n R v) := by
  have hlen := hP.len
  have hn := hP.small
  have hv0 := Lib.hid hv
  obtain ⟨oa, oc, rfl, -, -⟩ := hv.open
  clear hv
  have hd0 : ((n : Int) != (n : Int)) = false := by simp
  replace hP := Lib.hid hP
  rw [hlen] at hv0
  go_enter Try.func20, Try.ntmps20
  go_wp2_with fail
  refine (len_any _ p u n R hP.out).mono ?_
  rintro e w1 ⟨rfl, rfl⟩
  go_wp2_with fail
  refine (numblocks_any _ p u n R hP.out).mono ?_
  rintro e w1 ⟨rfl, hP1, hm1⟩
  have hv1 := hv0.out.mut hm1 (fun _ _ e => e)
  have hu1 := hP1.ult
  replace hP1 := Lib.hid hP1
  replace hv1 := Lib.hid hv1
  replace hm1 := Lib.hid hm1
  go_wp2_with fail
  refine (rblocks_any (· = u) _ R _ hv1.out (by intro b e; omega) (by omega)).mono ?_
  rw [hlen]
  rintro e w2 ⟨bl, rfl, hbl, hm2⟩
  have hv2 := Lib.hid (hv1.out.mut hm2 (by simp))
  have hP2 := Lib.hid (hP1.out.mut hm2 (by simp) (by simp))
  have hm2' := Lib.hid (hm1.out.trans (hm2.mono (fun _ _ e => e.elim)))
  obtain ⟨ba, bc, rfl, -, -⟩ := hbl.open
  have hd1 : (((rowsTo R n).length : Int) != ((rowsTo R n).length : Int)) = false := by simp
  clear hbl hm2 hP1 hv1 hm1 hP hv0
  generalize (rowsTo R n).length = rl at *
  go_wp2_with fail
  refine (blocks_any _ p u n R hP2.out).mono ?_
  rintro e w3 ⟨v3, rfl, hb3, hP3, hm3⟩
  have hv3 := Lib.hid (hv2.out.mut hm3 (fun _ _ e => e))
  have hb3' := Lib.hid (hb3 (· = u) (by intro b hb e; have := hP2.out.ult; omega))
  have hm3' := Lib.hid (hm2'.out.trans hm3)
  have hu3 := hP3.ult
  replace hP3 := Lib.hid hP3
  clear hb3 hm3 hP2 hv2 hm2'
  go_wp2_with fail
  refine (rblocks_any (· = u) _ R _ hv3.out (by intro b e; omega) (by omega)).mono ?_
  rw [hlen]
  rintro e w4 ⟨b4, rfl, hb4, hm4⟩
  have hv4 := Lib.hid (hv3.out.mut hm4 (by simp))
  have hP4 := Lib.hid (hP3.out.mut hm4 (by simp) (by simp))
  have hm4' := Lib.hid (hm3'.out.trans (hm4.mono (fun _ _ e => e.elim)))
  have hb3'' := Lib.hid (hb3'.out.mut hm4 (by simp))
  clear hm4 hP3 hv3 hm3' hb3'
  go_wp2_with fail
  refine (alike_true (· = u) _ _ (rowsTo R n) _ hb3''.out hb4).mono ?_
  rintro e w5 ⟨rfl, hm5⟩
  have hv5 := Lib.hid (hv4.out.mut hm5 (by simp))
  have hP5 := Lib.hid (hP4.out.mut hm5 (by simp) (by simp))
  have hm5' := Lib.hid (hm4'.out.trans (hm5.mono (fun _ _ e => e.elim)))
  clear hm5 hP4 hv4 hm4' hb3'' hb4
  have hlenH := Lib.hid hlen
  go_wp2
  go_loopw [5] (fun i wr => ∃ k : Nat, k ≤ n ∧ i = .int .i64 k ∧ Part wr p u n R ∧ Ints (· = u) wr (.slice oa n oc) R ∧ Mut (· = u) w wr) (fun i _ => n - (intOf i).toNat)
  case atStart => exact ⟨0, by omega, rfl, hP5.out, hv5.out, hm5'.out⟩
  case round =>
    obtain ⟨k, hk, rfl, hP, hv, hm⟩ := hrel
    clear hP5 hv5 hm5'
    by_cases hlt : k < n
    · obtain ⟨bb, off, x, rfl, hx, hcx⟩ := Ints.slot hv (Mut.refl _ _) (k := k) (by omega)
      have hbb : ¬ bb = u := by
        obtain ⟨_, _, he, -, h3⟩ := hv.open
        obtain ⟨b2, off2, _, q1, q2, _, _⟩ := h3 k (by omega)
        simp only [Value.slice.injEq] at he
        rw [← he.1] at q1
        simp only [Option.some.injEq, Addr.mk.injEq, and_true] at q1
        rw [q1.1]; exact q2
      replace hP := Lib.hid hP
      replace hv := Lib.hid hv
      replace hm := Lib.hid hm
      replace hx := Lib.hid hx
      go_wp2_with fail
      refine (find_any k _ p u n R hP.out).mono ?_
      rintro e w6 (⟨_, r, hr, rfl, hP6, hm6⟩ | ⟨h, _⟩)
      rotate_left
      · simp [thereB, hlt] at h
      simp only [Int.toNat_natCast] at hr
      rw [hx.out] at hr
      have hxr : x = (r : Int) := Option.some.inj hr
      subst hxr
      have hS := Lib.hid (show SameS w p u n R (.slice (some ⟨bb, off, none⟩) n oc) bb off k (r : Int) w6.drew from
        ⟨hP6.mut ((Mut.refl (fun _ => False) w6).drew) (by simp) (by simp), (hv.out.mut hm6 (fun _ _ e => e)).mut ((Mut.refl (fun _ => False) w6).drew) (by simp), (hm.out.trans hm6).drew, by simpa using hm6.cell hcx hbb⟩)
      have hne := Cls.ne hS.out
      have hbs := Lib.hid (sizeTo_block hlenH.out hlt hx.out n (Nat.le_refl _))
      have ht1 : ((r : Int) != (r : Int)) = false := by simp
      clear hr hP6 hm6 hm hP hv hcx
      go_wp2
      refine wp_plan (SameS w p u n R (.slice (some ⟨bb, off, none⟩) n oc) bb off k (r : Int)) [0, 1, 2, 3, 4, 5, 6, 7, 8, 9, 10, 11, 12, 13, 14, 15, 16, 17, 18] [([0, 1, 2, 3, 4, 5, 6, 7, 8, 9, 10, 11, 12, 14, 15, 16, 17, 18], some 13)] [19, 20, 21, 22] (by kernel_rfl) (by kernel_rfl) ?_
      refine ⟨Of.mk hS.out, ?_⟩
      simp only [wpPlan, pickOps_cons, pickOps_nil, List.getElem?_cons_zero, List.getElem?_cons_succ, pickOp_some]
      have s1 := fun x : Cls (SameS w p u n R (.slice (some ⟨bb, off, none⟩) n oc) bb off k (r : Int)) => x.ok.cell
      repeat (go_big_quiet_step (fail))
      refine wpQuiet_nil ?_
      clear s1 hne
      go_wp2_with fail
      refine (size_any k _ p u n R hS.out.part).mono ?_
      unfold SizePost
      rw [hbs.out]
      rintro e w7 ⟨rfl, hP7, hm7⟩
      have hS7 := Lib.hid (show SameS w p u n R (.slice (some ⟨bb, off, none⟩) n oc) bb off k (r : Int) w7 from
        ⟨hP7, hS.out.ints.mut hm7 (fun _ _ e => e), hS.out.mu.trans hm7, hm7.cell hS.out.cell hbb⟩)
      clear hP7 hm7 hS
      go_wp2
      refine ⟨fun _ => Of.mk hS7.out, ?_⟩
      go_wp2_with fail
      refine (block_any (· = u) _ R r _ (by exact hS7.out.ints) (by intro b e; have := hS7.out.part.ult; omega) (by omega)).mono ?_
      rw [hlenH.out]
      rintro e w8 ⟨v8, rfl, hv8, hm8⟩
      obtain ⟨a8, c8, rfl, -, -⟩ := hv8.open
      have H := Lib.hid (And.intro (hS7.out.part.mut hm8 (by simp) (by simp)) (And.intro (hS7.out.ints.mut hm8 (by simp)) (hS7.out.mu.trans (hm8.mono (fun _ _ e => e.elim)))))
      have hbe : (((blockTo R (r : Nat) n).length : Int) != ((blockTo R (r : Nat) n).length : Int)) = false := by simp
      clear hv8 hm8 hS7
      generalize (blockTo R (r : Nat) n).length = bl at *
      go_wp2
      refine NoPanic.normal ?_
      go_wp2
      go_roundw
      case rel => exact ⟨k + 1, by omega, by go_num, H.out.1, H.out.2.1, H.out.2.2⟩
      case measure => simp [intOf]; omega
    · have H := Lib.hid (show SamePost w p u n R (.slice oa n oc) (.returned (.bool true)) wr from ⟨rfl, hP, hv, hm⟩)
      clear hP hv hm
      go_wp2
      go_ret
      rw [hlenH.out]
      exact H.out
end Go.Proofs.Ytojfpobgncapjaa
