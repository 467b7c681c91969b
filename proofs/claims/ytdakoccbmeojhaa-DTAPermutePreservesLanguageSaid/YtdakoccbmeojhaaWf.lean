/- Contracts: at, Step of the reference. Condition: an automaton and operands in memory. -/
import Derived.Test.YtdakoccbmeojhaaWe
set_option linter.unusedSimpArgs false
set_option linter.unusedVariables false
set_option maxHeartbeats 400000
namespace Go.Proofs.Ytdakoccbmeojhaa
open Go Go.RowKit Go.PP

set_option maxRecDepth 8000 in
set_option maxHeartbeats 2000000 in
theorem at_any (v1 v2 v3 vl : Value) (A : Au) (s : Int) (l : List Int) (w : World) (hA : AuIn (fun _ => False) w v1 v2 v3 A) (hok : AuOk A) (hl : Ints (fun _ => False) w vl l) (hf : Fits A s l) :
    Calls Try.prog 53 #[.agg #[v1, v2, v3], .int .i64 s, vl] w (RetPost w (.int .i64 (atI A s l))) := by
  have hA0 := Lib.hid hA
  have hl0 := Lib.hid hl
  obtain ⟨a1, c1, a2, c2, a3, c3, rfl, rfl, rfl, l1, l2, l3⟩ := hA.open
  obtain ⟨xa, xc, rfl, hxl⟩ := hl.open'
  have hm := (Mut.refl (fun _ => False) w).alloc (.cells #[.slice a1 A.ranks.length c1, .slice a2 A.final.length c2, .slice a3 A.to.length c3] 35)
  have hn := hok.hi
  obtain ⟨i, p, row, q, rfl, hi, hrow, hp, hpl, hq, hat, -, -, hl2⟩ := hf.at hok
  have hbd := Lib.hid (fun j (hj : j < l.length) => place_bd (n := A.final.length) hn hf.rng hl2 hj)
  have hrng := Lib.hid hf.rng
  rw [hat]
  obtain ⟨b, off, ra, rc, xs, rfl, hx, hxsl, hcx, hxs⟩ := hA0.out.t.row hm hi
  obtain rfl : row = xs := by rw [hrow] at hx; exact Option.some.inj hx
  obtain ⟨b2, off2, x2, rfl, hx2, hcx2⟩ := hxs.slot hm hpl
  obtain rfl : q = x2 := by rw [hq] at hx2; exact Option.some.inj hx2
  have hlm := Lib.hid (hl0.out.fix hm)
  replace hm := Lib.hid hm
  replace hp := Lib.hid hp
  replace hf := Lib.hid hf
  replace hok := Lib.hid hok
  clear hA hl hrow hx hxs hq hx2 hat
  go_enter Try.func53, Try.ntmps53
  go_wp2
  go_loop [7, 12] (fun o i => ∃ j : Nat, j ≤ l.length ∧ i = .int .i64 j ∧ o = .int .i64 (placeOf A.final.length (l.take j))) (fun _ i => l.length - (intOf i).toNat)
  case atStart => exact ⟨0, by omega, rfl, rfl⟩
  case round =>
    obtain ⟨j, hj, rfl, rfl⟩ := hrel
    by_cases hlt : j < l.length
    · obtain ⟨b5, off5, x, rfl, hx, hcx5⟩ := hlm.out.slot (Mut.refl _ _) hlt
      have hxr := hrng.out x (List.mem_of_getElem? hx)
      have hsn := Lib.hid (placeOf_take (n := A.final.length) hx)
      obtain ⟨e1, e2, e3, e4⟩ := hbd.out j hlt
      generalize placeOf A.final.length (l.take j) = P at *
      clear hx
      go_wp2
      go_round
      case rel => exact ⟨j + 1, by omega, by go_num, by rw [hsn.out]⟩
      case measure => simp [intOf]; omega
    · obtain rfl : j = l.length := by omega
      have hpp : placeOf A.final.length (l.take l.length) = (p : Int) := by rw [List.take_length]; exact hp.out
      rw [hpp]
      clear hpp
      go_wp2
      go_ret
      exact ⟨rfl, hm.out⟩

def StepPost (w : World) (A : Au) (s : Int) (l : List Int) (e : Ending) (w' : World) : Prop := e = .returned (.tuple #[.int .i64 (stepE A s l).1, .int .i64 (stepE A s l).2]) ∧ Fix w w'

set_option maxRecDepth 8000 in
set_option maxHeartbeats 4000000 in
theorem rstep_any (v1 v2 v3 vl : Value) (A : Au) (s : Int) (l : List Int) (w : World) (hA : AuIn (fun _ => False) w v1 v2 v3 A) (hok : AuOk A) (hl : Ints (fun _ => False) w vl l) :
    Calls Try.prog 24 #[.agg #[v1, v2, v3], .int .i64 s, vl] w (StepPost w A s l) := by
  have hA0 := Lib.hid hA
  have hl0 := Lib.hid hl
  obtain ⟨a1, c1, a2, c2, a3, c3, rfl, rfl, rfl, l1, l2, l3⟩ := hA.open
  obtain ⟨xa, xc, rfl, hxl⟩ := hl.open'
  have hm := (Mut.refl (fun _ => False) w).alloc (.cells #[.slice a1 A.ranks.length c1, .slice a2 A.final.length c2, .slice a3 A.to.length c3] 26)
  have hB := Lib.hid (BoxA.mk' w (.slice a1 A.ranks.length c1) (.slice a2 A.final.length c2) (.slice a3 A.to.length c3) 26)
  clear hA hl
  unfold StepPost
  generalize hE : stepE A s l = E
  by_cases h1 : s < 0
  · have : E = (0, 6) := by rw [← hE]; unfold stepE; rw [if_pos (.inl h1)]
    subst this
    replace hE := Lib.hid hE
    replace hm := Lib.hid hm
    go_enter Try.func24, Try.ntmps24
    go_wp2
    go_ret2
    exact ⟨rfl, hm.out⟩
  have hd1 : decide (s < 0) = false := by simp; omega
  by_cases h2 : (A.ranks.length : Int) ≤ s
  · have : E = (0, 6) := by rw [← hE]; unfold stepE; rw [if_pos (.inr h2)]
    subst this
    replace hE := Lib.hid hE
    replace hm := Lib.hid hm
    go_enter Try.func24, Try.ntmps24
    go_wp2
    go_ret2
    exact ⟨rfl, hm.out⟩
  have hd2 : decide ((A.ranks.length : Int) ≤ s) = false := by simp; omega
  obtain ⟨i, rfl⟩ := Int.eq_ofNat_of_zero_le (show 0 ≤ s by omega)
  have hi : i < A.ranks.length := by omega
  obtain ⟨b, off, k, rfl, hk, hck⟩ := hA0.out.r.slot hm hi
  have hgd : A.ranks.getD (i : Int).toNat 0 = k := by simp [List.getD, hk]
  have hkr := hok.alpha.rng k (List.mem_of_getElem? hk)
  by_cases h3 : (l.length : Int) = k
  rotate_left
  · have : E = (0, 3) := by rw [← hE]; unfold stepE; rw [if_neg (by omega), if_pos (by rw [hgd]; exact h3)]
    subst this
    have ht : ((l.length : Int) != k) = true := by simp; exact h3
    replace hE := Lib.hid hE
    replace hm := Lib.hid hm
    replace hgd := Lib.hid hgd
    replace h3 := Lib.hid h3
    replace hk := Lib.hid hk
    go_enter Try.func24, Try.ntmps24
    go_wp2
    go_ret2
    exact ⟨rfl, hm.out⟩
  have ht : ((l.length : Int) != k) = false := by simp; exact h3
  have hE2 : E = open Classical in if (∃ x ∈ l, x < 0 ∨ (A.final.length : Int) ≤ x) then (0, 2) else (atI A i l, 0) := by rw [← hE]; unfold stepE; rw [if_neg (by omega), if_neg (by rw [hgd]; omega)]
  have hl2 : l.length ≤ 2 := by omega
  have hn := hok.hi
  have hlm := Lib.hid (hl0.out.fix hm)
  have hAm := Lib.hid (hA0.out.fix hm)
  replace hm := Lib.hid hm
  replace hE2 := Lib.hid hE2
  replace hgd := Lib.hid hgd
  replace h3 := Lib.hid h3
  replace hk := Lib.hid hk
  replace hok := Lib.hid hok
  clear hE
  go_enter Try.func24, Try.ntmps24
  go_wp2
  generalize (w.alloc (.cells #[.slice (some ⟨b, off, none⟩) A.ranks.length c1, .slice a2 A.final.length c2, .slice a3 A.to.length c3] 26)) = wb at *
  clear hck
  go_loopw [8, 9] (fun o i wr => ∃ j : Nat, j ≤ l.length ∧ i = .int .i64 j ∧ o = .int .i64 (placeOf A.final.length (l.take j)) ∧ (∀ (m : Nat) x, m < j → l[m]? = some x → ¬ (x < 0 ∨ (A.final.length : Int) ≤ x)) ∧ Fix wb wr) (fun _ i _ => l.length - (intOf i).toNat)
  case atStart => exact ⟨0, by omega, rfl, rfl, fun m x h => by omega, Mut.refl _ _⟩
  case round =>
    obtain ⟨j, hj, rfl, rfl, hall, hmr⟩ := hrel
    obtain ⟨k0, k1, k2⟩ := hB.out.fix hmr
    by_cases hlt : j < l.length
    · obtain ⟨b5, off5, x, rfl, hx, hcx5⟩ := hlm.out.slot hmr hlt
      have hsn := Lib.hid (placeOf_take (n := A.final.length) hx)
      replace hmr := Lib.hid hmr
      have hxm := Lib.hid (List.mem_of_getElem? hx)
      by_cases hx0 : x < 0
      · have : E = (0, 2) := by rw [hE2.out, if_pos ⟨x, hxm.out, .inl hx0⟩]
        subst this
        replace hx := Lib.hid hx
        replace hall := Lib.hid hall
        clear hE2
        go_wp2
        go_quiet (fail)
        go_wp2
        go_ret2
        exact ⟨rfl, (hm.out.trans hmr.out).drewN _⟩
      have hdx : decide (x < 0) = false := by simp; omega
      by_cases hx1 : (A.final.length : Int) ≤ x
      · have : E = (0, 2) := by rw [hE2.out, if_pos ⟨x, hxm.out, .inr hx1⟩]
        subst this
        replace hx := Lib.hid hx
        replace hall := Lib.hid hall
        clear hE2
        go_wp2
        go_quiet (fail)
        go_wp2
        go_ret2
        exact ⟨rfl, (hm.out.trans hmr.out).drewN _⟩
      have hdx1 : decide ((A.final.length : Int) ≤ x) = false := by simp; omega
      have hall2 := Lib.hid (show ∀ (m : Nat) y, m < j + 1 → l[m]? = some y → ¬ (y < 0 ∨ (A.final.length : Int) ≤ y) from fun m y hmj hy => by
        rcases Nat.lt_or_ge m j with e | e
        · exact hall m y e hy
        · obtain rfl : m = j := by omega
          rw [hx] at hy; cases hy; omega)
      have hbd : 0 ≤ placeOf A.final.length (l.take j) ∧ placeOf A.final.length (l.take j) ≤ 512 ∧ 0 ≤ placeOf A.final.length (l.take j) * A.final.length ∧ placeOf A.final.length (l.take j) * A.final.length ≤ 262144 := by
        have h1 := placeOf_lt (n := A.final.length) (l.take j) (fun y hy => by
          obtain ⟨m, hm⟩ := List.getElem?_of_mem hy
          have hmj : m < j := by have := (List.getElem?_eq_some_iff.1 hm).1; simp at this; omega
          rw [List.getElem?_take, if_pos hmj] at hm
          have := hall m y hmj hm
          omega)
        have hlen : (l.take j).length = j := by simp; omega
        rw [hlen] at h1
        have hle : placeOf A.final.length (l.take j) ≤ 512 := by
          rcases (show j = 0 ∨ j = 1 by omega) with rfl | rfl
          · have := h1.2; rw [Nat.pow_zero] at this; omega
          · have := h1.2; rw [Nat.pow_one] at this; omega
        refine ⟨h1.1, hle, Int.mul_nonneg h1.1 (by omega), ?_⟩
        have : placeOf A.final.length (l.take j) * A.final.length ≤ 512 * A.final.length := Int.mul_le_mul_of_nonneg_right hle (by omega)
        omega
      obtain ⟨e1, e2, e3, e4⟩ := hbd
      generalize placeOf A.final.length (l.take j) = P at *
      replace hx := Lib.hid hx
      clear hall
      go_wp2
      go_quiet (fail)
      go_wp2
      go_quiet (fail)
      go_wp2
      go_roundw
      case rel => exact ⟨j + 1, by omega, by go_num, by rw [hsn.out], hall2.out, hmr.out.drewN _⟩
      case measure => simp [intOf]; omega
    · obtain rfl : j = l.length := by omega
      have hnb : ¬ ∃ x ∈ l, x < 0 ∨ (A.final.length : Int) ≤ x := by
        rintro ⟨x, hx, h⟩
        obtain ⟨m, hm⟩ := List.getElem?_of_mem hx
        exact hall m x (List.getElem?_eq_some_iff.1 hm).1 hm h
      have hfits : Fits A i l := ⟨by omega, by omega, by rw [hgd.out]; exact h3.out, fun x hx => by
        have : ¬ (x < 0 ∨ (A.final.length : Int) ≤ x) := fun h => hnb ⟨x, hx, h⟩
        omega⟩
      obtain ⟨i', p, row, q, hi', hi2, hrow, hp, hpl, hq, hat, -, -, -⟩ := hfits.at hok.out
      obtain rfl : i = i' := by omega
      have : E = (q, 0) := by rw [hE2.out, if_neg hnb, hat]
      subst this
      obtain ⟨b6, off6, ra, rc, xs, rfl, hx, hxsl, hcx, hxs⟩ := hAm.out.t.row hmr hi2
      obtain rfl : row = xs := by rw [hrow] at hx; exact Option.some.inj hx
      obtain ⟨b2, off2, x2, rfl, hx2, hcx2⟩ := hxs.slot hmr hpl
      obtain rfl : q = x2 := by rw [hq] at hx2; exact Option.some.inj hx2
      have hpp : placeOf A.final.length (l.take l.length) = (p : Int) := by rw [List.take_length]; exact hp
      rw [hpp]
      replace hm := Lib.hid (hm.out.trans hmr)
      clear hpp hall hnb hfits hrow hp hq hat hx hxs hx2 hmr hE2
      go_wp2
      go_ret2
      exact ⟨rfl, hm.out⟩
end Go.Proofs.Ytdakoccbmeojhaa
