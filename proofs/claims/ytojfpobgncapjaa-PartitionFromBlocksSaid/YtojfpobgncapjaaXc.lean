/- PartitionFromBlocks returns true. Condition: the blocks read as a list of lists of ints. -/
import Derived.Test.YtojfpobgncapjaaXb
import Derived.Test.YtojfpobgncapjaaLc
set_option linter.unusedSimpArgs false
set_option linter.unusedVariables false
set_option maxHeartbeats 400000
namespace Go.Proofs.Ytojfpobgncapjaa
open Go Go.RowKit Go.PP

theorem ofRow_bad {n : Nat} {f : Int} {k : Nat} : ∀ (l R : List Int) (S : Nat → Bool), ofRow n f l R S = .bad k → k = 1 ∨ k = 7
  | [], R, S, h => by simp [ofRow] at h
  | a :: l, R, S, h => by
    rw [ofRow] at h
    split at h
    · split at h
      · cases h; exact .inr rfl
      · exact ofRow_bad l _ _ h
    · cases h; exact .inl rfl
theorem ofRows_bad {n : Nat} {k : Nat} : ∀ (xss : List (List Int)) (R : List Int) (S : Nat → Bool), ofRows n xss R S = .bad k → k = 1 ∨ k = 7
  | [], R, S, h => by simp [ofRows] at h
  | xs :: xss, R, S, h => by
    rw [ofRows] at h
    split at h
    · rename_i e he; cases h; exact ofRow_bad _ _ _ he
    · exact ofRows_bad xss _ _ h

set_option maxRecDepth 8000 in
set_option maxHeartbeats 4000000 in
theorem fb_mid (n : Int) (vb : Value) (xss : List (List Int)) (w : World) (hv : IntsL (fun _ => False) w vb xss) (h1 : 40 < n) (h2 : n ≤ 4096) : Calls Try.prog 8 #[.int .i64 n, vb] w (TruePost w) := by
  obtain ⟨va, vc, rfl, hl, -⟩ := hv.open
  clear hv
  go_enter Try.func8, Try.ntmps8
  go_wp2_with fail
  refine (known_any w).mono ?_
  rintro e w2 ⟨rfl, hm2⟩
  replace hm2 := Lib.hid hm2
  go_wp2
  go_ret
  exact ⟨rfl, hm2.out⟩

set_option maxRecDepth 8000 in
set_option maxHeartbeats 4000000 in
theorem fb_long (n : Int) (vb : Value) (xss : List (List Int)) (w : World) (hv : IntsL (fun _ => False) w vb xss) (h1 : n ≤ 40 ∨ 4096 < n) (h2 : 20 < xss.length) : Calls Try.prog 8 #[.int .i64 n, vb] w (TruePost w) := by
  obtain ⟨va, vc, rfl, hl, -⟩ := hv.open
  have hd : decide ((20 : Int) < (xss.length : Int)) = true := by simp; omega
  clear hv
  rcases h1 with h1 | h1
  all_goals
    have hd4 : decide ((40 : Int) < n) = decide ((40 : Int) < n) := rfl
    go_enter Try.func8, Try.ntmps8
    go_wp2_with fail
    refine (known_any w).mono ?_
    rintro e w2 ⟨rfl, hm2⟩
    replace hm2 := Lib.hid hm2
    go_wp2
    go_ret
    exact ⟨rfl, hm2.out⟩

set_option maxRecDepth 8000 in
set_option maxHeartbeats 4000000 in
theorem fb_out (n : Int) (vb : Value) (xss : List (List Int)) (w : World) (hv : IntsL (fun _ => False) w vb xss) (h1 : n < 0 ∨ 4096 < n) (h2 : xss.length ≤ 20) : Calls Try.prog 8 #[.int .i64 n, vb] w (TruePost w) := by
  have hv0 := Lib.hid hv
  have hn := Lib.hid h1
  obtain ⟨va, vc, rfl, hl, -⟩ := hv.open
  have hd : decide ((20 : Int) < (xss.length : Int)) = false := by simp; omega
  clear hv
  rcases h1 with h1 | h1
  all_goals
    go_enter Try.func8, Try.ntmps8
    go_wp2
    go_loop [5] (fun i => ∃ k : Nat, k ≤ xss.length ∧ i = .int .i64 k) (fun i => xss.length - (intOf i).toNat)
    case atStart => exact ⟨0, by omega, rfl⟩
    case round =>
      obtain ⟨k, hk, rfl⟩ := hrel
      by_cases hlt : k < xss.length
      · obtain ⟨b, off, ra, rc, xs, rfl, hx, hcx, hrow⟩ := IntsL.row hv0.out (Mut.refl _ w) hlt
        have hxl := hrow.len
        rw [List.length_map] at hxl
        clear hrow hx
        by_cases hbig : 60 < xs.length
        · go_wp2_with fail
          refine (known_any w).mono ?_
          rintro e w2 ⟨rfl, hm2⟩
          replace hm2 := Lib.hid hm2
          go_wp2
          go_ret
          exact ⟨rfl, hm2.out⟩
        · go_wp2
          go_round
          case rel => exact ⟨k + 1, by omega, by go_num⟩
          case measure => simp [intOf]; omega
      · obtain rfl : k = xss.length := by omega
        go_wp2_with fail
        refine (from_no n _ w hn.out).mono ?_
        rintro e w2 ⟨rfl, rfl⟩
        go_wp2_with fail
        refine (of_no n _ w hn.out).mono ?_
        rintro e w2 ⟨rfl, rfl⟩
        go_wp2_with fail
        refine (known_any w).mono ?_
        rintro e w2 ⟨rfl, hm2⟩
        replace hm2 := Lib.hid hm2
        go_wp2
        go_ret
        exact ⟨rfl, hm2.out⟩

set_option maxRecDepth 8000 in
set_option maxHeartbeats 8000000 in
theorem fb_in (n : Nat) (vb : Value) (xss : List (List Int)) (w : World) (hv : IntsL (fun _ => False) w vb xss) (h1 : n ≤ 40) (h2 : xss.length ≤ 20) : Calls Try.prog 8 #[.int .i64 n, vb] w (TruePost w) := by
  have hv0 := Lib.hid hv
  obtain ⟨va, vc, rfl, hl, -⟩ := hv.open
  have hd : decide ((20 : Int) < (xss.length : Int)) = false := by simp; omega
  clear hv
  go_enter Try.func8, Try.ntmps8
  go_wp2
  go_loop [5] (fun i => ∃ k : Nat, k ≤ xss.length ∧ i = .int .i64 k) (fun i => xss.length - (intOf i).toNat)
  case atStart => exact ⟨0, by omega, rfl⟩
  case round =>
    obtain ⟨k, hk, rfl⟩ := hrel
    by_cases hlt : k < xss.length
    · obtain ⟨b, off, ra, rc, xs, rfl, hx, hcx, hrow⟩ := IntsL.row hv0.out (Mut.refl _ w) hlt
      have hxl := hrow.len
      rw [List.length_map] at hxl
      clear hrow hx
      by_cases hbig : 60 < xs.length
      · go_wp2_with fail
        refine (known_any w).mono ?_
        rintro e w2 ⟨rfl, hm2⟩
        replace hm2 := Lib.hid hm2
        go_wp2
        go_ret
        exact ⟨rfl, hm2.out⟩
      · go_wp2
        go_round
        case rel => exact ⟨k + 1, by omega, by go_num⟩
        case measure => simp [intOf]; omega
    · obtain rfl : k = xss.length := by omega
      generalize hT : ofRows n xss (iota n) (fun _ => false) = T
      replace hT := Lib.hid hT
      have hF := Lib.hid (from_any n _ xss w (by omega) hv0.out)
      have hO := Lib.hid (fun w1 (hm : Mut (fun _ => False) w w1) => of_any n _ xss w1 (by omega) (hv0.out.mut hm (by simp)))
      rw [hT.out] at hF hO
      cases T with
      | bad e =>
        rcases ofRows_bad _ _ _ hT.out with rfl | rfl
        all_goals
          clear hT
          go_wp2_with fail
          refine hF.out.mono ?_
          rintro e w2 ⟨rfl, hm2⟩
          replace hm2 := Lib.hid hm2
          go_wp2_with fail
          refine (hO.out _ hm2.out).mono ?_
          rintro e w3 ⟨rfl, hm3⟩
          replace hm3 := Lib.hid (hm2.out.trans hm3)
          clear hm2
          go_wp2_with fail
          refine (known_any w3).mono ?_
          rintro e w4 ⟨rfl, hm4⟩
          replace hm4 := Lib.hid (hm3.out.trans hm4)
          clear hm3
          go_wp2
          go_ret
          exact ⟨rfl, hm4.out⟩
      | good R S =>
        clear hT
        go_wp2_with fail
        refine hF.out.mono ?_
        rintro e w2 ⟨p, u, rfl, hp, hu, hP, hm2⟩
        have hA := Lib.hid ((All.start w).addP hm2 ⟨p, u, n, R⟩ hp hu hP)
        replace hm2 := Lib.hid hm2
        clear hp hu hP
        go_wp2_with fail
        refine (hO.out _ hm2.out).mono ?_
        rintro e w3 ⟨v, rfl, hv3, hm3⟩
        have hA3 := Lib.hid ((hA.out.quiet hm3).addI v R (hv3.mono (fun b _ e => MU.lt hA.out.part e)))
        obtain ⟨a3, c3, rfl, -, -⟩ := hv3.open
        clear hv3 hm3 hm2 hA hF hO
        have hP3 := Lib.hid (hA3.out.get (i := 0) rfl)
        have hgd := Lib.hid hP3.out.good
        go_wp2_with fail
        refine (blocks_any _ p u n R hP3.out).mono ?_
        rintro e w4 ⟨v4, rfl, hb4, hP4, hm4⟩
        have hA4 := Lib.hid (hA3.out.write (i := 0) rfl hm4 (fun _ e => e) hP4)
        have hb5 := Lib.hid (hb4 (fun _ => False) (fun _ _ => id))
        obtain ⟨a4, c4, rfl, -, -⟩ := hb5.out.open
        have hF2 := from_any n _ _ w4 (by omega) hb5.out
        obtain ⟨S4, hS4⟩ := rows_back hgd.out
        rw [hS4] at hF2
        replace hF2 := Lib.hid hF2
        clear hA3 hb4 hP4 hm4 hS4 hP3
        go_wp2_with fail
        refine hF2.out.mono ?_
        rintro e w5 ⟨q, s, rfl, hq, hs, hQ, hm5⟩
        have hA5 := Lib.hid (hA4.out.addP hm5 ⟨q, s, n, R⟩ hq hs hQ)
        clear hm5 hq hs hQ hA4 hF2 hb5
        go_wp2_with fail
        refine (same_all hA5.out 0 0 rfl rfl).mono ?_
        rintro e w6 ⟨rfl, hA6⟩
        replace hA6 := Lib.hid hA6
        clear hA5
        go_wp2_with fail
        refine (equal_all hA6.out 1 0 rfl rfl (by decide) rfl).mono ?_
        simp only [refB_self hgd.out, Bool.and_self]
        rintro e w7 ⟨rfl, hA7⟩
        replace hA7 := Lib.hid hA7
        clear hA6
        go_wp2_with fail
        refine (known_all hA7.out).mono ?_
        rintro e w8 ⟨rfl, hA8⟩
        have hE := Lib.hid hA8.mu
        clear hA7 hA8
        go_wp2
        go_ret
        exact ⟨rfl, hE.out⟩

theorem fb_walk (n : Int) (vb : Value) (xss : List (List Int)) (w : World) (hv : IntsL (fun _ => False) w vb xss) :
    Calls Try.prog 8 #[.int .i64 n, vb] w fun e w' => e = .returned (.bool true) ∧ Below w.heap.size w w' := by
  have key : Calls Try.prog 8 #[.int .i64 n, vb] w (TruePost w) := by
    by_cases h1 : 40 < n ∧ n ≤ 4096
    · exact fb_mid n vb xss w hv h1.1 h1.2
    · by_cases h2 : 20 < xss.length
      · exact fb_long n vb xss w hv (by omega) h2
      · by_cases h3 : n < 0 ∨ 4096 < n
        · exact fb_out n vb xss w hv h3 (by omega)
        · obtain ⟨k, rfl⟩ := Int.eq_ofNat_of_zero_le (show 0 ≤ n by omega)
          exact fb_in k vb xss w hv (by omega) (by omega)
  exact key.mono fun e w' h => ⟨h.1, h.2.below⟩
end Go.Proofs.Ytojfpobgncapjaa
