/- Contracts over data: the guess at a digit. No condition. -/
import Derived.Test.YtebbekdebanabaaDoorYX1
import Derived.Test.YtebbekdebanabaaDoorYNG

set_option linter.unusedSimpArgs false
set_option linter.unusedVariables false
set_option maxHeartbeats 4000000
set_option maxRecDepth 8000
namespace Go.Proofs.YtebbekdebanabaaDoor
open Go Go.RowKit Go.PP Go.Dm Go.Bn
theorem gs_on {top next low q r : Nat} (h : q ≠ 0 ∧ (BW - 1 < q ∨ r * BW + low < q * next)) : gsL BW top next low q r = if BW - 1 < r + top then q - 1 else gsL BW top next low (q - 1) (r + top) := by rw [gsL, dif_pos h]
theorem gs_off {top next low q r : Nat} (h : ¬ (q ≠ 0 ∧ (BW - 1 < q ∨ r * BW + low < q * next))) : gsL BW top next low q r = q := by rw [gsL, dif_neg h]
theorem guess_d (high mid low top next : Nat) (h1 : high < 4294967296) (h2 : mid < 4294967296) (h3 : low < 4294967296) (h4 : top < 4294967296) (h5 : next < 4294967296) (h0 : 0 < top) :
    DFun Tryd.prog 53 [.flat (.int .u64 (high : Nat)), .flat (.int .u64 (mid : Nat)), .flat (.int .u64 (low : Nat)), .flat (.int .u64 (top : Nat)), .flat (.int .u64 (next : Nat))] (.flat (.int .u64 (gsL BW top next low ((high * 4294967296 + mid) / top) ((high * 4294967296 + mid) % top) : Nat))) := by
  have hor := or32 high mid h1 h2
  have hs : high * 4294967296 + mid < 18446744073709551616 := by omega
  refine DFun.enterA Tryd.func53 Tryd.ntmps53 ?_
  refine DW.walkTo 2 ?_
  rw [hor]
  generalize high * 4294967296 + mid = s at *
  have hq0 : s / top < 18446744073709551616 := Nat.lt_of_le_of_lt (Nat.div_le_self _ _) hs
  have hr0 : s % top < 4294967296 := Nat.lt_trans (Nat.mod_lt _ h0) h4
  refine DW.walk ?_
  generalize s / top = q0 at *
  generalize s % top = r0 at *
  generalize hG : gsL BW top next low q0 r0 = G
  refine DW.loopA (fun x : Nat × Nat => ⟨[(2, .flat (.int .u64 (low : Nat))), (3, .flat (.int .u64 (top : Nat))), (4, .flat (.int .u64 (next : Nat))), (12, .flat (.int .u64 (x.1 : Nat))), (13, .flat (.int .u64 (x.2 : Nat)))], []⟩) (fun x => gsL BW top next low x.1 x.2 = G ∧ x.1 < 18446744073709551616 ∧ x.2 < 4294967296) (fun x => x.1) (q0, r0) ?_ ⟨hG, hq0, hr0⟩
  rintro ⟨q, r⟩ ⟨c1, c2, c3⟩
  have c1 : gsL BW top next low q r = G := c1
  have c2 : q < 18446744073709551616 := c2
  have c3 : r < 4294967296 := c3
  dsimp only
  have hB1 : BW - 1 = 4294967295 := rfl
  have hrl := or32 r low c3 h3
  by_cases hq : 4294967295 < q
  · have hg := gs_on (top := top) (next := next) (low := low) (q := q) (r := r) ⟨by omega, .inl hq⟩
    rw [c1, hB1] at hg
    by_cases hr : 4294967295 < r + top
    · rw [if_pos hr] at hg
      rw [hg]
      have he : ((q - 1 : Nat) : Int) = (q : Int) - 1 := by omega
      rw [he]
      clear c1 hg
      refine DW.walk ?_
      exact ⟨.inr rfl, ResOk.one [] rfl rfl trivial (Vw.pers rfl)⟩
    · rw [if_neg hr] at hg
      clear c1
      refine DW.walk ?_
      exact ⟨(q - 1, r + top), ⟨hg.symm, by show q - 1 < _; omega, by show r + top < _; omega⟩, by show q - 1 < q; omega, Sub.auto⟩
  · have hqn : (q : Int) * (next : Int) ≤ 18446744065119617025 ∧ 0 ≤ (q : Int) * (next : Int) := mul_le32 (by omega) h5
    have hqn2 : ((q * next : Nat) : Int) = (q : Int) * (next : Int) := Int.natCast_mul ..
    by_cases hc : r * 4294967296 + low < q * next
    · have hq0 : q ≠ 0 := fun e => by rw [e, Nat.zero_mul] at hc; omega
      have hg := gs_on (top := top) (next := next) (low := low) (q := q) (r := r) ⟨hq0, .inr hc⟩
      rw [c1, hB1] at hg
      have hc2 : ((r * 2 ^ 32 % 18446744073709551616 ||| low : Nat) : Int) < (q : Int) * (next : Int) := by rw [hrl]; omega
      by_cases hr : 4294967295 < r + top
      · rw [if_pos hr] at hg
        rw [hg]
        have he : ((q - 1 : Nat) : Int) = (q : Int) - 1 := by omega
        rw [he]
        clear c1 hg
        refine DW.walk ?_
        exact ⟨.inr rfl, ResOk.one [] rfl rfl trivial (Vw.pers rfl)⟩
      · rw [if_neg hr] at hg
        clear c1
        refine DW.walk ?_
        exact ⟨(q - 1, r + top), ⟨hg.symm, by show q - 1 < _; omega, by show r + top < _; omega⟩, by show q - 1 < q; omega, Sub.auto⟩
    · have hg := gs_off (top := top) (next := next) (low := low) (q := q) (r := r) (fun h => by
        rcases h.2 with h | h
        · rw [hB1] at h; exact hq h
        · exact hc h)
      rw [c1] at hg
      rw [hg]
      have hc2 : ¬ ((r * 2 ^ 32 % 18446744073709551616 ||| low : Nat) : Int) < (q : Int) * (next : Int) := by rw [hrl]; omega
      clear c1 hg
      refine DW.walk ?_
      exact ⟨.inr rfl, ResOk.one [] rfl rfl trivial (Vw.pers rfl)⟩
end Go.Proofs.YtebbekdebanabaaDoor
