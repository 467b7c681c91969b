/- Contract of made. Condition: the pairs read as a list of pairs. -/
import Derived.Test.YtojfpobgncapjaaWj
set_option linter.unusedSimpArgs false
set_option linter.unusedVariables false
set_option maxHeartbeats 400000
namespace Go.Proofs.Ytojfpobgncapjaa
open Go Go.RowKit Go.PP

def Pairs (w : World) (v : Value) (ps : List (Int × Int)) : Prop :=
  ∃ a c, v = .slice a ps.length c ∧ ps.length ≤ 9223372036854775807 ∧ ∀ i, i < ps.length → ∃ b off x y, a = some ⟨b, off, none⟩ ∧ ps[i]? = some (x, y) ∧
    w.cell? ⟨b, off + i * 2, none⟩ = some (.int .i64 x) ∧ w.cell? ⟨b, off + i * 2 + 1, none⟩ = some (.int .i64 y)

theorem Pairs.slot {w wr : World} {a : Option Addr} {n c : Nat} {ps : List (Int × Int)} (h : Pairs w (.slice a n c) ps) (hm : Mut (fun _ => False) w wr) {k : Nat} (hk : k < ps.length) :
    ∃ b off x y, a = some ⟨b, off, none⟩ ∧ ps[k]? = some (x, y) ∧ wr.cell? ⟨b, off + k * 2, none⟩ = some (.int .i64 x) ∧ wr.cell? ⟨b, off + k * 2 + 1, none⟩ = some (.int .i64 y) := by
  obtain ⟨_, _, he, -, hx⟩ := h
  simp only [Value.slice.injEq] at he
  obtain ⟨rfl, -, rfl⟩ := he
  obtain ⟨b, off, x, y, h1, h2, h3, h4⟩ := hx k hk
  exact ⟨b, off, x, y, h1, h2, hm.cell h3 (by simp), hm.cell h4 (by simp)⟩

def stepPair (n : Nat) (R : List Int) (a b : Int) : List Int :=
  if (thereB n a && thereB n b) = true then merged R (max (R.getD a.toNat 0).toNat (R.getD b.toNat 0).toNat) (min (R.getD a.toNat 0).toNat (R.getD b.toNat 0).toNat) else R

/-- From the singletons, the first k pairs. -/
def foldP (n : Nat) (ps : List (Int × Int)) : Nat → List Int
  | 0 => iota n
  | k + 1 => match ps[k]? with
    | some (a, b) => stepPair n (foldP n ps k) a b
    | none => foldP n ps k

def MadePost (w : World) (n : Nat) (ps : List (Int × Int)) (e : Ending) (w' : World) : Prop :=
  ∃ (p u : Nat) (v : Value), e = .returned (.tuple #[.pointer (some ⟨p, 0, none⟩), v]) ∧ w.heap.size ≤ p ∧ w.heap.size ≤ u ∧ Part w' p u n (foldP n ps (min ps.length 60)) ∧ Ints (· = u) w' v (foldP n ps (min ps.length 60)) ∧ Mut (fun _ => False) w w'

theorem made_no (n : Int) (vp : Value) (w : World) (h : n < 0 ∨ 40 < n) : Calls Try.prog 11 #[.int .i64 n, vp] w fun e w' => e = .returned (.tuple #[.pointer none, .slice none 0 0]) ∧ Mut (fun _ => False) w w' := by
  rcases (show (n < 0 ∨ 4096 < n) ∨ (40 < n ∧ n ≤ 4096) by omega) with h1 | ⟨h1, h2⟩
  · go_enter Try.func11, Try.ntmps11
    go_wp2_with fail
    refine (rnew_no n w h1).mono ?_
    rintro e w1 ⟨rfl, rfl⟩
    clear h1 h
    go_wp2
    go_ret2
    exact ⟨rfl, Mut.refl _ _⟩
  · obtain ⟨k, rfl⟩ := Int.eq_ofNat_of_zero_le (show 0 ≤ n by omega)
    go_enter Try.func11, Try.ntmps11
    go_wp2_with fail
    refine (rnew_any (fun _ => False) k w (by omega) (by simp)).mono ?_
    rintro e w1 ⟨v, rfl, hv, hm⟩
    replace hm := Lib.hid hm
    clear hv
    go_wp2
    go_ret2
    exact ⟨rfl, hm.out⟩

set_option maxHeartbeats 4000000 in
theorem made_any (n : Nat) (vp : Value) (ps : List (Int × Int)) (w : World) (hn : n ≤ 40) (hp : Pairs w vp ps) : Calls Try.prog 11 #[.int .i64 n, vp] w (MadePost w n ps) := by
  have hp0 := Lib.hid hp
  obtain ⟨a, c, rfl, hpl, -⟩ := hp
  have hd : decide ((40 : Int) < (n : Int)) = false := by simp; omega
  go_enter Try.func11, Try.ntmps11
  go_wp2_with fail
  refine (rnew_any (fun _ => False) n w (by omega) (by simp)).mono ?_
  rintro e w1 ⟨v, rfl, hv, hm⟩
  replace hv := Lib.hid hv
  replace hm := Lib.hid hm
  go_wp2_with fail
  refine (new_any n _ (by omega)).mono ?_
  rintro e w2 ⟨p, u, rfl, hpp, huu, hP, hm2⟩
  have hszm := hm.out.size
  have hv2 : Ints (· = u) w2 v (iota n) := (hv.out.mono (fun b hb e => by omega)).mut hm2 (by simp)
  have H0 := Lib.hid (And.intro hP (And.intro hv2 (hm.out.trans hm2)))
  clear hv hm hP hm2 hv2
  go_wp2
  have hMF : ∀ (a b : World), Mut (fun _ => False) w a → Mut (· = u) a b → Mut (fun _ => False) w b := fun a b h1 h2 => h1.trans' h2 (fun i hi e => by omega)
  replace hMF := Lib.hid hMF
  go_loopw [6, 10] (fun v i wr => ∃ k : Nat, k ≤ ps.length ∧ k ≤ 60 ∧ i = .int .i64 k ∧ Part wr p u n (foldP n ps k) ∧ Ints (· = u) wr v (foldP n ps k) ∧ Mut (fun _ => False) w wr) (fun _ i _ => 60 - (intOf i).toNat)
  case atStart => exact ⟨0, by omega, by omega, rfl, H0.out.1, H0.out.2.1, H0.out.2.2⟩
  case round =>
    obtain ⟨k, hk, hk60, rfl, hP, hv, hm⟩ := hrel
    clear H0
    have hsz := hm.size
    by_cases hlt : k < ps.length
    · by_cases hlt6 : k < 60
      · obtain ⟨b, off, x, y, rfl, hps, hcx, hcy⟩ := Pairs.slot hp0.out hm hlt
        have hlen := hP.len
        generalize hR : foldP n ps k = R at *
        have hstep : foldP n ps (k + 1) = stepPair n R x y := by simp [foldP, hps, hR]
        replace hstep := Lib.hid hstep
        replace hps := Lib.hid hps
        replace hR := Lib.hid hR
        replace hlen := Lib.hid hlen
        replace hP := Lib.hid hP
        replace hv := Lib.hid hv
        replace hm := Lib.hid hm
        clear hp0
        cases hx : thereB n x with
        | false =>
          have hst : stepPair n R x y = R := by simp [stepPair, hx]
          rw [hst] at hstep
          have hx' := Lib.hid hx
          clear hx hst
          go_wp2
          go_quiet (fail)
          go_wp2_with fail
          refine (union_any x y _ p u n R (by exact hP.out.mut ((Mut.refl (fun _ => False) wr).drewN _) (by simp) (by simp))).mono ?_
          rintro e w3 (⟨h, _⟩ | ⟨_, rfl, rfl⟩)
          · simp [hx'.out] at h
          go_wp2_with fail
          refine (rthere_any (· = u) _ R x _ (by exact hv.out.mut ((Mut.refl (fun _ => False) wr).drewN _) (by simp))).mono ?_
          rw [hlen.out, hx'.out]
          rintro e w4 ⟨rfl, rfl⟩
          go_wp2
          go_roundw
          case rel => exact ⟨k + 1, by omega, by omega, by go_num, by rw [hstep.out]; exact hP.out.mut ((Mut.refl (fun _ => False) wr).drewN _) (by simp) (by simp), by rw [hstep.out]; exact hv.out.mut ((Mut.refl (fun _ => False) wr).drewN _) (by simp), hm.out.drewN _⟩
          case measure => simp [intOf]; omega
        | true =>
          cases hy : thereB n y with
          | false =>
            have hst : stepPair n R x y = R := by simp [stepPair, hy]
            rw [hst] at hstep
            have hx' := Lib.hid hx
            have hy' := Lib.hid hy
            clear hx hy hst
            go_wp2
            go_quiet (fail)
            go_wp2_with fail
            refine (union_any x y _ p u n R (by exact hP.out.mut ((Mut.refl (fun _ => False) wr).drewN _) (by simp) (by simp))).mono ?_
            rintro e w3 (⟨h, _⟩ | ⟨_, rfl, rfl⟩)
            · simp [hy'.out] at h
            go_wp2_with fail
            refine (rthere_any (· = u) _ R x _ (by exact hv.out.mut ((Mut.refl (fun _ => False) wr).drewN _) (by simp))).mono ?_
            rw [hlen.out, hx'.out]
            rintro e w4 ⟨rfl, rfl⟩
            go_wp2_with fail
            refine (rthere_any (· = u) _ R y _ (by exact hv.out.mut ((Mut.refl (fun _ => False) wr).drewN _) (by simp))).mono ?_
            rw [hlen.out, hy'.out]
            rintro e w4 ⟨rfl, rfl⟩
            go_wp2
            go_roundw
            case rel => exact ⟨k + 1, by omega, by omega, by go_num, by rw [hstep.out]; exact hP.out.mut ((Mut.refl (fun _ => False) wr).drewN _) (by simp) (by simp), by rw [hstep.out]; exact hv.out.mut ((Mut.refl (fun _ => False) wr).drewN _) (by simp), hm.out.drewN _⟩
            case measure => simp [intOf]; omega
          | true =>
            obtain ⟨i, rfl, hi⟩ := thereB_true hx
            obtain ⟨j, rfl, hj⟩ := thereB_true hy
            have hx' := Lib.hid hx
            have hy' := Lib.hid hy
            clear hx hy
            go_wp2
            go_quiet (fail)
            go_wp2_with fail
            refine (union_any i j _ p u n R (by exact hP.out.mut ((Mut.refl (fun _ => False) wr).drewN _) (by simp) (by simp))).mono ?_
            rintro e w3 (⟨_, x1, y1, hx1, hy1, rfl, hP3, hm3⟩ | ⟨h, _⟩)
            rotate_left
            · simp [hx'.out, hy'.out] at h
            have hv3 : Ints (· = u) w3 u6 R := (hv.out.mut ((Mut.refl (fun _ => False) wr).drewN nq) (by simp)).mut hm3 (fun _ _ e => e)
            have hm4 := hMF.out _ _ (hm.out.drewN nq) hm3
            simp only [Int.toNat_natCast] at hx1 hy1
            have hst : stepPair n R i j = merged R (max x1 y1) (min x1 y1) := by simp [stepPair, hx'.out, hy'.out, hx1, hy1]
            rw [hst] at hstep
            have hult := hP3.ult
            replace hv3 := Lib.hid hv3
            replace hx1 := Lib.hid hx1
            replace hy1 := Lib.hid hy1
            replace hP3 := Lib.hid hP3
            replace hm4 := Lib.hid hm4
            clear hst hm hm3 hP hv
            go_wp2_with fail
            refine (rthere_any (· = u) _ R i _ hv3.out).mono ?_
            rw [hlen.out, hx'.out]
            rintro e w4 ⟨rfl, rfl⟩
            go_wp2_with fail
            refine (rthere_any (· = u) _ R j _ hv3.out).mono ?_
            rw [hlen.out, hy'.out]
            rintro e w4 ⟨rfl, rfl⟩
            go_wp2_with fail
            refine (rjoin_any (· = u) _ R i j x1 y1 _ hv3.out (by intro b e; omega) (by rw [hlen.out]; omega) hx1.out hy1.out).mono ?_
            rintro e w5 ⟨v5, rfl, hv5, hm5⟩
            have H := Lib.hid (And.intro (hP3.out.mut hm5 (by simp) (by simp)) (And.intro hv5 (hm4.out.trans hm5)))
            clear hv3 hP3 hm4 hv5 hm5
            go_wp2
            go_roundw
            case rel => exact ⟨k + 1, by omega, by omega, by go_num, by rw [hstep.out]; exact H.out.1, by rw [hstep.out]; exact H.out.2.1, H.out.2.2⟩
            case measure => simp [intOf]; omega
      · obtain rfl : k = 60 := by omega
        have hmin : min ps.length 60 = 60 := by omega
        have H := Lib.hid (show MadePost w n ps (.returned (.tuple #[.pointer (some ⟨p, 0, none⟩), u6])) wr from ⟨p, u, u6, rfl, by omega, by omega, by rw [hmin]; exact hP, by rw [hmin]; exact hv, hm⟩)
        clear hP hv hm hp0 hmin
        go_wp2
        go_ret2
        exact H.out
    · obtain rfl : k = ps.length := by omega
      have hmin : min ps.length 60 = ps.length := by omega
      have H := Lib.hid (show MadePost w n ps (.returned (.tuple #[.pointer (some ⟨p, 0, none⟩), u6])) wr from ⟨p, u, u6, rfl, by omega, by omega, by rw [hmin]; exact hP, by rw [hmin]; exact hv, hm⟩)
      clear hP hv hm hp0 hmin
      go_wp2
      go_ret2
      exact H.out
end Go.Proofs.Ytojfpobgncapjaa
