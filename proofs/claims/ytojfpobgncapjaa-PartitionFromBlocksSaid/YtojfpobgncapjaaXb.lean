/- Contract of the reference's Of. Condition: a list of lists of ints in memory. -/
import Derived.Test.YtojfpobgncapjaaXa
set_option linter.unusedSimpArgs false
set_option linter.unusedVariables false
set_option maxHeartbeats 400000
namespace Go.Proofs.Ytojfpobgncapjaa
open Go Go.RowKit Go.PP

def OfPost (w : World) (n : Nat) (T : Res) (e : Ending) (w' : World) : Prop :=
  match T with
  | .bad k => e = .returned (.tuple #[.slice none 0 0, .int .i64 k]) ∧ Mut (fun _ => False) w w'
  | .good R _ => ∃ v, e = .returned (.tuple #[v, .int .i64 0]) ∧ Ints (fun b => b < w.heap.size) w' v R ∧ Mut (fun _ => False) w w'

theorem of_no (n : Int) (vb : Value) (w : World) (h : n < 0 ∨ 4096 < n) : Calls Try.prog 32 #[.int .i64 n, vb] w fun e w' => e = .returned (.tuple #[.slice none 0 0, .int .i64 2]) ∧ w = w' := by
  replace h := Lib.hid h
  go_enter Try.func32, Try.ntmps32
  go_wp2_with fail
  refine (rnew_no n _ h.out).mono ?_
  rintro e w1 ⟨rfl, rfl⟩
  go_wp2
  go_ret2
  exact ⟨rfl, rfl⟩

set_option maxRecDepth 8000 in
set_option maxHeartbeats 8000000 in
theorem of_any (n : Nat) (vb : Value) (xss : List (List Int)) (w : World) (hn : n ≤ 4096) (hv : IntsL (fun _ => False) w vb xss) :
    Calls Try.prog 32 #[.int .i64 n, vb] w (OfPost w n (ofRows n xss (iota n) fun _ => false)) := by
  have hv0 := Lib.hid hv
  obtain ⟨va, vc, rfl, hl, -⟩ := hv.open
  clear hv
  generalize hT : ofRows n xss (iota n) (fun _ => false) = T
  replace hT := Lib.hid hT
  have hmk := fun w => run_make_row' (P := Try.prog) 75 4 (.bool false) 1 Try.underlying75 info4 rfl .i64 .i64 n (by omega) (by omega) w
  go_enter Try.func32, Try.ntmps32
  go_wp2_with fail
  refine (rnew_any (fun b => b < w.heap.size) n w hn (fun b h => h)).mono ?_
  rintro e w1 ⟨v, rfl, hi, hm⟩
  have hi1 : Ints (fun b => b < w.heap.size ∨ b = w1.heap.size) w1 v (iota n) := hi.mono (fun b hb e => e.elim id (fun e => absurd e (by omega)))
  have hP1 := Lib.hid (hi1.mut ((Mut.refl (fun _ => False) w1).alloc (.cells (madeCells #[.bool false] n) 4)) (by simp))
  have hr1 := Lib.hid (World.rowIs_made w1 (.bool false) n 4)
  have hm1 := Lib.hid (hm.alloc (.cells (madeCells #[.bool false] n) 4))
  have hz1 : w1.heap.size < (w1.alloc (.cells (madeCells #[.bool false] n) 4)).heap.size := by simp
  replace hz1 := Lib.hid hz1
  have hsz := hm.size
  obtain ⟨a0, c0, rfl, -, -⟩ := hi.open
  clear hi hi1 hm
  go_wp2
  go_loopw [6, 9] (fun v i wr => ∃ (k : Nat) (R : List Int) (S : Nat → Bool), k ≤ xss.length ∧ i = .int .i64 k ∧ ofRows n (xss.drop k) R S = T ∧ GoodR n R ∧ w1.heap.size < wr.heap.size ∧ Ints (fun b => b < w.heap.size ∨ b = w1.heap.size) wr v R ∧ wr.rowIs w1.heap.size 4 n (seenF S) ∧ Mut (fun _ => False) w wr) (fun _ i _ => xss.length - (intOf i).toNat)
  case atStart => exact ⟨0, iota n, fun _ => false, by omega, rfl, by rw [List.drop_zero]; exact hT.out, GoodR.fold [] 0, hz1.out, hP1.out, hr1.out, hm1.out⟩
  case round =>
    obtain ⟨k, R, S, hk, rfl, hT2, hg2, hz2, hP2, hr2, hm2⟩ := hrel
    clear hP1 hr1 hm1 hmk hT hz1
    obtain ⟨a2, c2, rfl, -, -⟩ := hP2.open
    by_cases hlt : k < xss.length
    · obtain ⟨xs, hx⟩ : ∃ xs, xss[k]? = some xs := ⟨xss[k], by simp⟩
      rw [ofRows_at hx] at hT2
      replace hP2 := Lib.hid hP2
      replace hr2 := Lib.hid hr2
      replace hm2 := Lib.hid hm2
      replace hT2 := Lib.hid hT2
      replace hx := Lib.hid hx
      replace hg2 := Lib.hid hg2
      go_wp2
      obtain ⟨wo, rfl⟩ : ∃ wo : World, wo = wr := ⟨_, rfl⟩
      go_loopw [6, 10] (fun v i wr => ∃ (j : Nat) (R : List Int) (S : Nat → Bool), j ≤ xs.length ∧ i = .int .i64 j ∧ thenRows n (xss.drop (k + 1)) (ofRow n (xs.headD 0) (xs.drop j) R S) = T ∧ (j = 0 ∨ thereB n (xs.headD 0) = true) ∧ GoodR n R ∧ w1.heap.size < wr.heap.size ∧ Ints (fun b => b < w.heap.size ∨ b = w1.heap.size) wr v R ∧ wr.rowIs w1.heap.size 4 n (seenF S) ∧ Mut (fun _ => False) w wr) (fun _ i _ => xs.length - (intOf i).toNat)
      case atStart => exact ⟨0, R, S, by omega, rfl, hT2.out, .inl rfl, hg2.out, hz2, hP2.out, hr2.out, hm2.out⟩
      case round =>
        obtain ⟨j, R', S', hj, rfl, hT3, hf, hg3, hz3, hP3, hr3, hm3⟩ := hrel
        obtain ⟨a3, c3, rfl, -, -⟩ := hP3.open
        clear hP2 hr2 hm2 hT2 hg2
        obtain ⟨b, off, ra, rc, xs', rfl, hx', hcx, hrow⟩ := IntsL.row hv0.out hm3 hlt
        obtain rfl : xs = xs' := by have := hx.out; rw [hx'] at this; exact (Option.some.inj this).symm
        have hlen := hg3.len
        rw [hlen] at hP3 ⊢
        replace hlen := Lib.hid hlen
        replace hg3 := Lib.hid hg3
        have hxl := hrow.len
        rw [List.length_map] at hxl
        have hrow0 := Lib.hid hrow
        clear hrow hx'
        by_cases hjl : j < xs.length
        · obtain ⟨b2, off2, x, rfl, hxj, hcj⟩ := Ints.slot hrow0.out hm3 hjl
          replace hP3 := Lib.hid hP3
          replace hm3 := Lib.hid hm3
          cases ht : thereB n x with
          | false =>
            rw [ofRow_out hxj ht] at hT3
            replace ht := Lib.hid ht
            have hT4 : OfPost w n T (.returned (.tuple #[.slice none 0 0, .int .i64 1])) wr := by rw [← hT3]; exact ⟨rfl, hm3.out⟩
            replace hT4 := Lib.hid hT4
            clear hT3 hr3 hf hxj
            go_wp2_with fail
            refine (rthere_any _ _ R' x _ hP3.out).mono ?_
            rw [hlen.out, ht.out]
            rintro e w4 ⟨rfl, rfl⟩
            go_wp2
            go_ret2
            exact hT4.out
          | true =>
            obtain ⟨a, rfl, ha⟩ := thereB_true ht
            have hct := hr3.cell ha
            have hft := hr3.frozen a
            cases hS : S' a with
            | true =>
              rw [ofRow_dup hxj ht R' S' hS] at hT3
              replace ht := Lib.hid ht
              have hT4 : OfPost w n T (.returned (.tuple #[.slice none 0 0, .int .i64 7])) wr := by rw [← hT3]; exact ⟨rfl, hm3.out⟩
              replace hT4 := Lib.hid hT4
              simp only [seenF, hS] at hct
              clear hT3 hr3 hf hxj hS
              go_wp2_with fail
              refine (rthere_any _ _ R' a _ hP3.out).mono ?_
              rw [hlen.out, ht.out]
              rintro e w4 ⟨rfl, rfl⟩
              go_wp2
              go_ret2
              exact hT4.out
            | false =>
              rw [ofRow_next hxj ht R' S' hS] at hT3
              simp only [seenF, hS] at hct
              obtain ⟨y0, hy0⟩ : ∃ y0, xs[0]? = some y0 := ⟨xs[0]'(by omega), by simp⟩
              have hhd : xs.headD 0 = y0 := by cases xs with
                | nil => simp at hy0
                | cons z zs => simp at hy0; simp [hy0]
              have hft2 : thereB n y0 = true := by
                rcases hf with rfl | hf
                · rw [hxj] at hy0; rw [← Option.some.inj hy0]; exact ht
                · rw [← hhd]; exact hf
              obtain ⟨f, rfl, hfn⟩ := thereB_true hft2
              rw [hhd] at hT3 hf
              obtain ⟨b3, off3, x3, hb3, hx3, hc3⟩ := Ints.slot hrow0.out hm3.out (k := 0) (by omega)
              simp only [Option.some.injEq, Addr.mk.injEq, and_true] at hb3
              obtain ⟨rfl, rfl⟩ := hb3
              rw [hy0] at hx3
              obtain rfl := (Option.some.inj hx3).symm
              have hblt : b2 < w.heap.size := by
                obtain ⟨b5, off5, x5, hb5, -, hc5⟩ := Ints.slot hrow0.out (Mut.refl _ w) (k := 0) (by omega)
                simp only [Option.some.injEq, Addr.mk.injEq, and_true] at hb5
                rw [hb5.1]
                exact World.block_lt_of_cell? w _ hc5
              have hblt' : b < w.heap.size := by
                obtain ⟨b5, off5, ra5, rc5, xs5, hb5, -, hc5, -⟩ := IntsL.row hv0.out (Mut.refl _ w) hlt
                simp only [Option.some.injEq, Addr.mk.injEq, and_true] at hb5
                rw [hb5.1]
                exact World.block_lt_of_cell? w _ hc5
              obtain ⟨x, -, hx1, -⟩ := hg3.out.rep f hfn
              obtain ⟨y, -, hy1, -⟩ := hg3.out.rep a ha
              have hst : stepPair n R' f a = merged R' (max x y) (min x y) := by simp [stepPair, hft2, ht, hx1, hy1]
              have hg4 := Lib.hid (hg3.out.step (f : Int) (a : Int))
              have hr4 := Lib.hid (seen_set hr3 a)
              have hm4 := Lib.hid (hm3.out.setCell (p := ⟨w1.heap.size, a, none⟩) (fun h => absurd h (by show ¬ w1.heap.size < w.heap.size; omega)) (.bool true))
              have hP4 := Lib.hid (hP3.out.mut (S := fun b => b = w1.heap.size) ((Mut.refl (fun b => b = w1.heap.size) wr).setCell (p := ⟨w1.heap.size, a, none⟩) (fun _ => rfl) (.bool true)) (fun b _ e => .inr e))
              have hz4 : w1.heap.size < (wr.setCell ⟨w1.heap.size, a, none⟩ (.bool true)).heap.size := by simpa [World.setCell] using hz3
              have hc4 : (wr.setCell ⟨w1.heap.size, a, none⟩ (.bool true)).cell? ⟨b2, off2, none⟩ = some (.int .i64 f) := by
                rw [cell_set_far (by omega)]; simpa using hc3
              have hc5 : (wr.setCell ⟨w1.heap.size, a, none⟩ (.bool true)).cell? ⟨b, off + k, none⟩ = some (.slice (some ⟨b2, off2, none⟩) xs.length rc) := by
                rw [cell_set_far (by omega)]; exact hcx
              replace hst := Lib.hid hst
              replace ht := Lib.hid ht
              replace hx1 := Lib.hid hx1
              replace hy1 := Lib.hid hy1
              replace hft2 := Lib.hid hft2
              replace hT3 := Lib.hid hT3
              replace hhd := Lib.hid hhd
              replace hz4 := Lib.hid hz4
              clear hr3 hc3 hS hy0 hx3 hxj hf
              go_wp2_with fail
              refine (rthere_any _ _ R' a _ hP3.out).mono ?_
              rw [hlen.out, ht.out]
              rintro e w4 ⟨rfl, rfl⟩
              clear hP3 hm3
              go_wp2_with fail
              refine (rjoin_any _ _ R' f a x y _ hP4.out (fun b e => by have := hz4.out; rcases e with e | e <;> omega) (by rw [hlen.out]; exact hn) hx1.out hy1.out).mono ?_
              unfold RJoinPost
              rw [← hst.out]
              rintro e w5 ⟨v5, rfl, hi5, hm5⟩
              obtain ⟨a5, c5, rfl, -, -⟩ := hi5.open
              have hz5 := Lib.hid (Nat.lt_of_lt_of_le hz4.out hm5.size)
              have hr5 := Lib.hid (rowIs_mut hr4.out hm5 (by simp))
              have hm6 := Lib.hid (hm4.out.trans hm5)
              replace hi5 := Lib.hid hi5
              clear hm5 hm4 hr4 hP4 hst
              generalize ((x : Int) != (y : Int)) = bq
              go_wp2
              go_roundw
              case rel => exact ⟨j + 1, _, _, by omega, by go_num, by rw [hhd.out]; exact hT3.out, .inr (by rw [hhd.out]; exact hft2.out), hg4.out, hz5.out, hi5.out, hr5.out, hm6.out⟩
              case measure => simp [intOf]; omega
        · obtain rfl : j = xs.length := by omega
          rw [ofRow_end] at hT3
          have hT4 := Lib.hid hT3
          replace hP3 := Lib.hid hP3
          replace hm3 := Lib.hid hm3
          replace hr3 := Lib.hid hr3
          clear hT3
          go_wp2
          go_roundw
          case rel => exact ⟨k + 1, R', S', by omega, by go_num, hT4.out, hg3.out, hz3, hP3.out, hr3.out, hm3.out⟩
          case measure => simp [intOf]; omega
    · obtain rfl : k = xss.length := by omega
      rw [ofRows_end] at hT2
      subst hT2
      have H := Lib.hid (show OfPost w n (.good R S) (.returned (.tuple #[.slice a2 R.length c2, .int .i64 0])) wr from ⟨_, rfl, hP2.mono fun b _ e => .inl e, hm2⟩)
      clear hP2 hr2 hm2 hv0
      go_wp2
      go_ret2
      exact H.out
end Go.Proofs.Ytojfpobgncapjaa
