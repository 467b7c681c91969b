/- PartitionUnion returns true. Condition: the pairs read as a list of pairs. -/
import Derived.Test.YtojfpobgncapjaaWo
set_option linter.unusedSimpArgs false
set_option linter.unusedVariables false
set_option maxHeartbeats 400000
namespace Go.Proofs.Ytojfpobgncapjaa
open Go Go.RowKit Go.PP

theorem union_no (n : Int) (vp : Value) (w : World) (h : n < 0 ∨ 4096 < n) : Calls Try.prog 4 #[.int .i64 n, vp] w (TruePost w) := by
  go_enter Try.func4, Try.ntmps4
  go_wp2_with fail
  refine (rnew_no n w h).mono ?_
  rintro e w1 ⟨rfl, rfl⟩
  go_wp2_with fail
  refine (new_no n _ h).mono ?_
  rintro e w1 ⟨rfl, rfl⟩
  clear h
  go_wp2_with fail
  refine (known_any _).mono ?_
  rintro e w2 ⟨rfl, hm⟩
  replace hm := Lib.hid hm
  go_wp2
  go_ret
  exact ⟨rfl, hm.out⟩

theorem union_big (n : Nat) (vp : Value) (w : World) (h : 40 < n) (h2 : n ≤ 4096) : Calls Try.prog 4 #[.int .i64 n, vp] w (TruePost w) := by
  have hd : decide ((40 : Int) < (n : Int)) = true := by simp; omega
  go_enter Try.func4, Try.ntmps4
  go_wp2_with fail
  refine (rnew_any (fun _ => False) n w (by omega) (by simp)).mono ?_
  rintro e w1 ⟨v, rfl, hv, hm⟩
  replace hm := Lib.hid hm
  clear hv h h2
  go_wp2_with fail
  refine (known_any _).mono ?_
  rintro e w2 ⟨rfl, hm2⟩
  replace hm := Lib.hid (hm.out.trans hm2)
  clear hm2
  go_wp2
  go_ret
  exact ⟨rfl, hm.out⟩

theorem connB_merged {R : List Int} {n i j x y : Nat} (hx : R[i]? = some (x : Int)) (hy : R[j]? = some (y : Int)) (h1 : thereB n (i : Int) = true) (h2 : thereB n (j : Int) = true) :
    connB (merged R (max x y) (min x y)) n i j = true := by
  have e1 := merged_at (m := max x y) (k := min x y) hx
  have e2 := merged_at (m := max x y) (k := min x y) hy
  simp only [connB, h1, h2, Int.toNat_natCast, List.getD, e1, e2, Option.getD_some, Bool.and_self, Bool.true_and, beq_iff_eq]
  split <;> split <;> omega

set_option maxRecDepth 8000 in
set_option maxHeartbeats 8000000 in
theorem union_small (n : Nat) (vp : Value) (ps : List (Int × Int)) (w : World) (hn : n ≤ 40) (hp : Pairs w vp ps) : Calls Try.prog 4 #[.int .i64 n, vp] w (TruePost w) := by
  have hp0 := Lib.hid hp
  obtain ⟨a, c, rfl, hpl, -⟩ := hp
  have hd : decide ((40 : Int) < (n : Int)) = false := by simp; omega
  go_enter Try.func4, Try.ntmps4
  go_wp2_with fail
  refine (rnew_any (fun _ => False) n w (by omega) (by simp)).mono ?_
  rintro e w1 ⟨v, rfl, hv, hm⟩
  replace hv := Lib.hid hv
  replace hm := Lib.hid hm
  go_wp2_with fail
  refine (new_any n _ (by omega)).mono ?_
  rintro e w2 ⟨p, u, rfl, hpp, huu, hP, hm2⟩
  have hszm := hm.out.size
  have hv2 := Lib.hid (show Ints (· = u) w2 v (iota n) from (hv.out.mono (fun b hb e => by omega)).mut hm2 (by simp))
  replace hm := Lib.hid (hm.out.trans hm2)
  replace hP := Lib.hid hP
  clear hv hm2
  go_wp2_with fail
  refine (psame_true _ p u n _ v hP.out hv2.out).mono ?_
  rintro e w3 ⟨rfl, hP3, hv3, hm3⟩
  have H0 := Lib.hid (And.intro hP3 (And.intro hv3 (hm.out.trans' hm3 (fun i hi e => by omega))))
  clear hv2 hm hP hP3 hv3 hm3
  go_wp2
  have hMF : ∀ (a b : World), Mut (fun _ => False) w a → Mut (· = u) a b → Mut (fun _ => False) w b := fun a b h1 h2 => h1.trans' h2 (fun i hi e => by omega)
  replace hMF := Lib.hid hMF
  go_loopw [5, 11] (fun v i wr => ∃ k : Nat, k ≤ ps.length ∧ k ≤ 40 ∧ i = .int .i64 k ∧ Part wr p u n (foldP n ps k) ∧ Ints (· = u) wr v (foldP n ps k) ∧ Mut (fun _ => False) w wr) (fun _ i _ => 40 - (intOf i).toNat)
  case atStart => exact ⟨0, by omega, by omega, rfl, H0.out.1, H0.out.2.1, H0.out.2.2⟩
  case round =>
    obtain ⟨k, hk, hk60, rfl, hP, hv, hm⟩ := hrel
    clear H0
    have hsz := hm.size
    by_cases hlt : k < ps.length
    · by_cases hlt6 : k < 40
      · obtain ⟨b, off, x, y, rfl, hps, hcx, hcy⟩ := Pairs.slot hp0.out hm hlt
        have hlen := hP.len
        generalize hR : foldP n ps k = R at *
        have hstep : foldP n ps (k + 1) = stepPair n R x y := by simp [foldP, hps, hR]
        replace hstep := Lib.hid hstep
        replace hps := Lib.hid hps
        replace hR := Lib.hid hR
        replace hlen := Lib.hid hlen
        replace hP := Lib.hid hP
        replace hv := Lib.hid hv
        replace hm := Lib.hid hm
        clear hp0
        cases hx : thereB n x with
        | false =>
          have hst : stepPair n R x y = R := by simp [stepPair, hx]
          rw [hst] at hstep
          have hx' := Lib.hid hx
          clear hx hst
          go_wp2
          go_quiet (fail)
          go_wp2_with fail
          refine (union_any x y _ p u n R (by exact hP.out.mut ((Mut.refl (fun _ => False) wr).drewN _) (by simp) (by simp))).mono ?_
          rintro e w3 (⟨h, _⟩ | ⟨_, rfl, rfl⟩)
          · simp [hx'.out] at h
          go_wp2_with fail
          refine (rthere_any (· = u) _ R x _ (by exact hv.out.mut ((Mut.refl (fun _ => False) wr).drewN _) (by simp))).mono ?_
          rw [hlen.out, hx'.out]
          rintro e w4 ⟨rfl, rfl⟩
          go_wp2_with fail
          refine (conn_any x y _ p u n R (by exact hP.out.mut ((Mut.refl (fun _ => False) wr).drewN _) (by simp) (by simp))).mono ?_
          unfold ConnPost
          rw [connB_none hx'.out]
          rintro e w4 ⟨rfl, hP4, hm4⟩
          have H := Lib.hid (And.intro hP4 (And.intro ((hv.out.mut ((Mut.refl (fun _ => False) wr).drewN _) (by simp)).mut hm4 (fun _ _ e => e)) (hMF.out _ _ (hm.out.drewN _) hm4)))
          clear hP4 hm4 hP hv hm
          go_wp2
          go_roundw
          case rel => exact ⟨k + 1, by omega, by omega, by go_num, by rw [hstep.out]; exact H.out.1, by rw [hstep.out]; exact H.out.2.1, H.out.2.2⟩
          case measure => simp [intOf]; omega
        | true =>
          cases hy : thereB n y with
          | false =>
            have hst : stepPair n R x y = R := by simp [stepPair, hy]
            rw [hst] at hstep
            have hx' := Lib.hid hx
            have hy' := Lib.hid hy
            clear hx hy hst
            go_wp2
            go_quiet (fail)
            go_wp2_with fail
            refine (union_any x y _ p u n R (by exact hP.out.mut ((Mut.refl (fun _ => False) wr).drewN _) (by simp) (by simp))).mono ?_
            rintro e w3 (⟨h, _⟩ | ⟨_, rfl, rfl⟩)
            · simp [hy'.out] at h
            go_wp2_with fail
            refine (rthere_any (· = u) _ R x _ (by exact hv.out.mut ((Mut.refl (fun _ => False) wr).drewN _) (by simp))).mono ?_
            rw [hlen.out, hx'.out]
            rintro e w4 ⟨rfl, rfl⟩
            go_wp2_with fail
            refine (rthere_any (· = u) _ R y _ (by exact hv.out.mut ((Mut.refl (fun _ => False) wr).drewN _) (by simp))).mono ?_
            rw [hlen.out, hy'.out]
            rintro e w4 ⟨rfl, rfl⟩
            go_wp2_with fail
            refine (conn_any x y _ p u n R (by exact hP.out.mut ((Mut.refl (fun _ => False) wr).drewN _) (by simp) (by simp))).mono ?_
            unfold ConnPost
            rw [connB_symm, connB_none hy'.out]
            rintro e w4 ⟨rfl, hP4, hm4⟩
            have H := Lib.hid (And.intro hP4 (And.intro ((hv.out.mut ((Mut.refl (fun _ => False) wr).drewN _) (by simp)).mut hm4 (fun _ _ e => e)) (hMF.out _ _ (hm.out.drewN _) hm4)))
            clear hP4 hm4 hP hv hm
            go_wp2
            go_roundw
            case rel => exact ⟨k + 1, by omega, by omega, by go_num, by rw [hstep.out]; exact H.out.1, by rw [hstep.out]; exact H.out.2.1, H.out.2.2⟩
            case measure => simp [intOf]; omega
          | true =>
            obtain ⟨i, rfl, hi⟩ := thereB_true hx
            obtain ⟨j, rfl, hj⟩ := thereB_true hy
            have hx' := Lib.hid hx
            have hy' := Lib.hid hy
            clear hx hy
            go_wp2
            go_quiet (fail)
            go_wp2_with fail
            refine (union_any i j _ p u n R (by exact hP.out.mut ((Mut.refl (fun _ => False) wr).drewN _) (by simp) (by simp))).mono ?_
            rintro e w3 (⟨_, x1, y1, hx1, hy1, rfl, hP3, hm3⟩ | ⟨h, _⟩)
            rotate_left
            · simp [hx'.out, hy'.out] at h
            have hv3 : Ints (· = u) w3 u5 R := (hv.out.mut ((Mut.refl (fun _ => False) wr).drewN nq) (by simp)).mut hm3 (fun _ _ e => e)
            have hm4 := hMF.out _ _ (hm.out.drewN nq) hm3
            simp only [Int.toNat_natCast] at hx1 hy1
            have hst : stepPair n R i j = merged R (max x1 y1) (min x1 y1) := by simp [stepPair, hx'.out, hy'.out, hx1, hy1]
            rw [hst] at hstep
            have hult := hP3.ult
            have hcm := Lib.hid (connB_merged hx1 hy1 hx'.out hy'.out)
            replace hv3 := Lib.hid hv3
            replace hx1 := Lib.hid hx1
            replace hy1 := Lib.hid hy1
            replace hP3 := Lib.hid hP3
            replace hm4 := Lib.hid hm4
            clear hst hm hm3 hP hv
            go_wp2_with fail
            refine (rthere_any (· = u) _ R i _ hv3.out).mono ?_
            rw [hlen.out, hx'.out]
            rintro e w4 ⟨rfl, rfl⟩
            go_wp2_with fail
            refine (rthere_any (· = u) _ R j _ hv3.out).mono ?_
            rw [hlen.out, hy'.out]
            rintro e w4 ⟨rfl, rfl⟩
            go_wp2_with fail
            refine (rjoin_any (· = u) _ R i j x1 y1 _ hv3.out (by intro b e; omega) (by rw [hlen.out]; omega) hx1.out hy1.out).mono ?_
            rintro e w5 ⟨v5, rfl, hv5, hm5⟩
            have hP5 := Lib.hid (hP3.out.mut hm5 (by simp) (by simp))
            replace hm4 := Lib.hid (hm4.out.trans hm5)
            replace hv5 := Lib.hid hv5
            clear hv3 hP3 hm5
            generalize merged R (max x1 y1) (min x1 y1) = R5 at *
            have hbb : (((x1 : Int) != (y1 : Int)) != ((x1 : Int) != (y1 : Int))) = false := by simp
            generalize ((x1 : Int) != (y1 : Int)) = bq at *
            go_wp2_with fail
            refine (conn_any i j _ p u n R5 hP5.out).mono ?_
            unfold ConnPost
            rw [hcm.out]
            rintro e w6 ⟨rfl, hP6, hm6⟩
            have hv6 := Lib.hid (hv5.out.mut hm6 (fun _ _ e => e))
            have hM6 := Lib.hid (hMF.out _ _ hm4.out hm6)
            replace hP6 := Lib.hid hP6
            clear hm6 hm4 hP5 hv5
            go_wp2_with fail
            refine (psame_true _ p u n R5 v5 hP6.out hv6.out).mono ?_
            rintro e w7 ⟨rfl, hP7, hv7, hm7⟩
            have H := Lib.hid (And.intro hP7 (And.intro hv7 (hMF.out _ _ hM6.out hm7)))
            clear hP7 hv7 hm7 hP6 hv6 hM6
            go_wp2
            go_roundw
            case rel => exact ⟨k + 1, by omega, by omega, by go_num, by rw [hstep.out]; exact H.out.1, by rw [hstep.out]; exact H.out.2.1, H.out.2.2⟩
            case measure => simp [intOf]; omega
      · obtain rfl : k = 40 := by omega
        have hm := Lib.hid hm
        clear hP hv hp0
        go_wp2_with fail
        refine (known_any _).mono ?_
        rintro e w8 ⟨rfl, hm8⟩
        have hE := Lib.hid (hm.out.trans hm8)
        clear hm8 hm
        go_wp2
        go_ret
        exact ⟨rfl, hE.out⟩
    · obtain rfl : k = ps.length := by omega
      have hm := Lib.hid hm
      clear hP hv hp0
      go_wp2_with fail
      refine (known_any _).mono ?_
      rintro e w8 ⟨rfl, hm8⟩
      have hE := Lib.hid (hm.out.trans hm8)
      clear hm8 hm
      go_wp2
      go_ret
      exact ⟨rfl, hE.out⟩

theorem union_walk (n : Int) (vp : Value) (ps : List (Int × Int)) (w : World) (hp : Pairs w vp ps) :
    Calls Try.prog 4 #[.int .i64 n, vp] w fun e w' => e = .returned (.bool true) ∧ Below w.heap.size w w' := by
  have key : Calls Try.prog 4 #[.int .i64 n, vp] w (TruePost w) := by
    by_cases hn : n < 0 ∨ 4096 < n
    · exact union_no n vp w hn
    · obtain ⟨k, rfl⟩ := Int.eq_ofNat_of_zero_le (show 0 ≤ n by omega)
      by_cases hk : 40 < k
      · exact union_big k vp w hk (by omega)
      · exact union_small k vp ps w (by omega) hp
  exact key.mono fun e w' h => ⟨h.1, h.2.below⟩
end Go.Proofs.Ytojfpobgncapjaa
