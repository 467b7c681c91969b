/- Contract of Step; DTAStep returns true. Condition: an automaton, operands in memory. -/
import Derived.Test.YtdakoccbmeojhaaWj
set_option linter.unusedSimpArgs false
set_option linter.unusedVariables false
set_option maxHeartbeats 400000
namespace Go.Proofs.Ytdakoccbmeojhaa
open Go Go.RowKit Go.PP

noncomputable def stepP (A : Au) (s : Int) (l : List Int) : Int × Nat := open Classical in if chk A ≠ 0 then (0, chk A) else stepE A s l
def StepPost2 (w : World) (A : Au) (s : Int) (l : List Int) (e : Ending) (w' : World) : Prop := e = .returned (.tuple #[.int .i64 (stepP A s l).1, .int .i64 (stepP A s l).2]) ∧ Fix w w'

set_option maxRecDepth 8000 in
set_option maxHeartbeats 4000000 in
theorem step_any (v1 v2 v3 vl : Value) (A : Au) (s : Int) (l : List Int) (w : World) (hA : AuIn (fun _ => False) w v1 v2 v3 A) (hl : Ints (fun _ => False) w vl l) :
    Calls Try.prog 23 #[.agg #[v1, v2, v3], .int .i64 s, vl] w (StepPost2 w A s l) := by
  have hA0 := Lib.hid hA
  have hl0 := Lib.hid hl
  obtain ⟨a1, c1, a2, c2, a3, c3, rfl, rfl, rfl, l1, l2, l3⟩ := hA.open
  obtain ⟨xa, xc, rfl, hxl⟩ := hl.open'
  have hm := (Mut.refl (fun _ => False) w).alloc (.cells #[.slice a1 A.ranks.length c1, .slice a2 A.final.length c2, .slice a3 A.to.length c3] 35)
  have hB := Lib.hid (BoxA.mk' w (.slice a1 A.ranks.length c1) (.slice a2 A.final.length c2) (.slice a3 A.to.length c3) 35)
  have hc := check_any _ _ _ A _ (hA0.out.fix hm)
  have hAm := Lib.hid (hA0.out.fix hm)
  have hlm := Lib.hid (hl0.out.fix hm)
  replace hm := Lib.hid hm
  clear hA hl
  unfold StepPost2
  by_cases hk : chk A = 0
  rotate_left
  · rw [show stepP A s l = (0, chk A) by unfold stepP; rw [if_pos hk]]
    have hne : ((chk A : Int) != 0) = true := by simp; exact hk
    replace hc := Lib.hid hc
    generalize chk A = E at *
    replace hk := Lib.hid hk
    go_enter Try.func23, Try.ntmps23
    go_wp2_with fail
    refine hc.out.mono ?_
    rintro e w1 ⟨rfl, hm1⟩
    replace hm := Lib.hid (hm.out.trans hm1)
    clear hm1
    go_wp2
    go_ret2
    exact ⟨rfl, hm.out⟩
  rw [show stepP A s l = stepE A s l by unfold stepP; rw [if_neg (by omega)]]
  rw [hk] at hc
  replace hc := Lib.hid hc
  have hok := chk_ok hk
  replace hk := Lib.hid hk
  generalize hE : stepE A s l = E
  by_cases h1 : s < 0
  · have : E = (0, 6) := by rw [← hE]; unfold stepE; rw [if_pos (.inl h1)]
    subst this
    replace hE := Lib.hid hE
    replace hok := Lib.hid hok
    go_enter Try.func23, Try.ntmps23
    go_wp2_with fail
    refine hc.out.mono ?_
    rintro e w1 ⟨rfl, hm1⟩
    replace hm := Lib.hid (hm.out.trans hm1)
    clear hm1
    go_wp2
    go_ret2
    exact ⟨rfl, hm.out⟩
  have hd1 : decide (s < 0) = false := by simp; omega
  by_cases h2 : (A.ranks.length : Int) ≤ s
  · have : E = (0, 6) := by rw [← hE]; unfold stepE; rw [if_pos (.inr h2)]
    subst this
    replace hE := Lib.hid hE
    replace hok := Lib.hid hok
    go_enter Try.func23, Try.ntmps23
    go_wp2_with fail
    refine hc.out.mono ?_
    rintro e w1 ⟨rfl, hm1⟩
    obtain ⟨k0, k1, k2⟩ := hB.out.fix hm1
    replace hm := Lib.hid (hm.out.trans hm1)
    clear hm1
    go_wp2
    go_ret2
    exact ⟨rfl, hm.out⟩
  have hd2 : decide ((A.ranks.length : Int) ≤ s) = false := by simp; omega
  obtain ⟨i, rfl⟩ := Int.eq_ofNat_of_zero_le (show 0 ≤ s by omega)
  have hi : i < A.ranks.length := by omega
  obtain ⟨b, off, k, rfl, hkr0, hck⟩ := hAm.out.r.slot (Mut.refl _ _) hi
  have hgd : A.ranks.getD (i : Int).toNat 0 = k := by simp [List.getD, hkr0]
  by_cases h3 : (l.length : Int) = k
  rotate_left
  · have : E = (0, 3) := by rw [← hE]; unfold stepE; rw [if_neg (by omega), if_pos (by rw [hgd]; exact h3)]
    subst this
    have ht : ((l.length : Int) != k) = true := by simp; exact h3
    replace hE := Lib.hid hE
    replace hgd := Lib.hid hgd
    replace h3 := Lib.hid h3
    replace hkr0 := Lib.hid hkr0
    replace hok := Lib.hid hok
    go_enter Try.func23, Try.ntmps23
    go_wp2_with fail
    refine hc.out.mono ?_
    rintro e w1 ⟨rfl, hm1⟩
    obtain ⟨k0, k1, k2⟩ := hB.out.fix hm1
    replace hck := hm1.cell hck (by simp)
    replace hm := Lib.hid (hm.out.trans hm1)
    clear hm1
    go_wp2
    go_ret2
    exact ⟨rfl, hm.out⟩
  have ht : ((l.length : Int) != k) = false := by simp; exact h3
  have hE2 : E = open Classical in if (∃ x ∈ l, x < 0 ∨ (A.final.length : Int) ≤ x) then (0, 2) else (atI A i l, 0) := by rw [← hE]; unfold stepE; rw [if_neg (by omega), if_neg (by rw [hgd]; omega)]
  replace hE2 := Lib.hid hE2
  replace hkr0 := Lib.hid hkr0
  replace h3 := Lib.hid h3
  replace hgd := Lib.hid hgd
  replace hok := Lib.hid hok
  clear hE
  by_cases hbad : ∃ x ∈ l, x < 0 ∨ (A.final.length : Int) ≤ x
  · have : E = (0, 2) := by rw [hE2.out, if_pos hbad]
    subst this
    replace hbad := Lib.hid hbad
    go_enter Try.func23, Try.ntmps23
    go_wp2_with fail
    refine hc.out.mono ?_
    rintro e w1 ⟨rfl, hm1⟩
    obtain ⟨k0, k1, k2⟩ := hB.out.fix hm1
    replace hck := hm1.cell hck (by simp)
    have hB1 := Lib.hid (hB.out.fix hm1)
    have hA1 := Lib.hid (hAm.out.fix hm1)
    have hl1 := Lib.hid (hlm.out.fix hm1)
    replace hm := Lib.hid (hm.out.trans hm1)
    clear hm1
    go_wp2_with fail
    refine (containsFunc47 (fun x => !stB A.final.length x) 52 ⟨w.heap.size, 0, none⟩ _ l _ hl1.out enter52 (fun x _ w3 hm3 => notState52 w.heap.size _ _ _ A x w3 (hB1.out.fix hm3) (hA1.out.fix hm3)) true ?_).mono ?_
    · simp only [true_iff]
      obtain ⟨s, hs, h⟩ := hbad.out
      exact ⟨s, hs, by simp [stB]; omega⟩
    rintro e w4 ⟨rfl, hm4⟩
    replace hm := Lib.hid (hm.out.trans hm4)
    clear hm4
    go_wp2
    go_ret2
    exact ⟨rfl, hm.out⟩
  · have hfits : Fits A i l := ⟨by omega, by omega, by rw [hgd.out]; exact h3.out, fun x hx => by
      have : ¬ (x < 0 ∨ (A.final.length : Int) ≤ x) := fun h => hbad ⟨x, hx, h⟩
      omega⟩
    have : E = (atI A i l, 0) := by rw [hE2.out, if_neg hbad]
    subst this
    replace hbad := Lib.hid hbad
    replace hfits := Lib.hid hfits
    clear hE2
    go_enter Try.func23, Try.ntmps23
    go_wp2_with fail
    refine hc.out.mono ?_
    rintro e w1 ⟨rfl, hm1⟩
    obtain ⟨k0, k1, k2⟩ := hB.out.fix hm1
    replace hck := hm1.cell hck (by simp)
    have hB1 := Lib.hid (hB.out.fix hm1)
    have hA1 := Lib.hid (hAm.out.fix hm1)
    have hl1 := Lib.hid (hlm.out.fix hm1)
    replace hm := Lib.hid (hm.out.trans hm1)
    clear hm1
    go_wp2_with fail
    refine (containsFunc47 (fun x => !stB A.final.length x) 52 ⟨w.heap.size, 0, none⟩ _ l _ hl1.out enter52 (fun x _ w3 hm3 => notState52 w.heap.size _ _ _ A x w3 (hB1.out.fix hm3) (hA1.out.fix hm3)) false ?_).mono ?_
    · simp only [Bool.false_eq_true, false_iff]
      rintro ⟨s, hs, h⟩
      exact hbad.out ⟨s, hs, by simp [stB] at h; omega⟩
    rintro e w4 ⟨rfl, hm4⟩
    obtain ⟨k0', k1', k2'⟩ := hB1.out.fix hm4
    have hA4 := Lib.hid (hA1.out.fix hm4)
    have hl4 := Lib.hid (hl1.out.fix hm4)
    replace hm := Lib.hid (hm.out.trans hm4)
    clear hm4
    go_wp2_with fail
    refine (at_any _ _ _ _ A i l _ hA4.out hok.out hl4.out hfits.out).mono ?_
    rintro e w5 ⟨rfl, hm5⟩
    replace hm := Lib.hid (hm.out.trans hm5)
    clear hm5
    go_wp2
    go_ret2
    exact ⟨rfl, hm.out⟩

theorem Ints.take {M : Nat → Prop} {w : World} {a : Option Addr} {n c k : Nat} {l : List Int} (h : Ints M w (.slice a n c) l) (hk : k ≤ l.length) : Ints M w (.slice a k c) (l.take k) := by
  obtain ⟨a', c', h1, h2, h3⟩ := h
  simp only [Value.slice.injEq, List.length_map] at h1 h2 h3
  obtain ⟨rfl, rfl, rfl⟩ := h1
  refine ⟨a, c, by simp; omega, by simp; omega, fun i hi => ?_⟩
  have hi' : i < k ∧ i < l.length := by simp at hi; omega
  obtain ⟨b, off, u, q1, q2, q3, q4⟩ := h3 i hi'.2
  refine ⟨b, off, u, q1, q2, ?_, q4⟩
  rw [List.getElem?_map] at q3 ⊢
  rw [List.getElem?_take, if_pos hi'.1]; exact q3

def TruePost (w : World) (e : Ending) (w' : World) : Prop := e = .returned (.bool true) ∧ Fix w w'

theorem steplaw_many (v1 v2 v3 vl : Value) (A : Au) (s : Int) (l : List Int) (w : World) (hA : AuIn (fun _ => False) w v1 v2 v3 A) (hl : Ints (fun _ => False) w vl l) (hf : fewB A = false) :
    Calls Try.prog 4 #[.agg #[v1, v2, v3], .int .i64 s, vl] w (TruePost w) := by
  have hA0 := Lib.hid hA
  obtain ⟨a1, c1, a2, c2, a3, c3, rfl, rfl, rfl, l1, l2, l3⟩ := hA.open
  obtain ⟨xa, xc, rfl, hxl⟩ := hl.open'
  have hm := (Mut.refl (fun _ => False) w).alloc (.cells #[.slice a1 A.ranks.length c1, .slice a2 A.final.length c2, .slice a3 A.to.length c3] 26)
  have hfw := few_any _ _ _ _ A (hA0.out.fix hm)
  rw [hf] at hfw
  replace hfw := Lib.hid hfw
  replace hm := Lib.hid hm
  clear hA hl hf
  go_enter Try.func4, Try.ntmps4
  go_wp2_with fail
  refine hfw.out.mono ?_
  rintro e w1 ⟨rfl, hm1⟩
  replace hm := Lib.hid (hm.out.trans hm1)
  clear hm1
  go_wp2_with fail
  refine (known_any _).mono ?_
  rintro e w2 ⟨rfl, hm1⟩
  replace hm := Lib.hid (hm.out.trans hm1)
  clear hm1
  go_wp2
  go_ret
  exact ⟨rfl, hm.out⟩

set_option maxRecDepth 8000 in
set_option maxHeartbeats 4000000 in
theorem steplaw_short (v1 v2 v3 vl : Value) (A : Au) (s : Int) (l : List Int) (w : World) (hA : AuIn (fun _ => False) w v1 v2 v3 A) (hl : Ints (fun _ => False) w vl l) (hf : fewB A = true) (hcap : ∀ a n c, vl = .slice a n c → n ≤ c) (h5 : l.length ≤ 5) :
    Calls Try.prog 4 #[.agg #[v1, v2, v3], .int .i64 s, vl] w (TruePost w) := by
  have hA0 := Lib.hid hA
  have hl0 := hl
  obtain ⟨a1, c1, a2, c2, a3, c3, rfl, rfl, rfl, l1, l2, l3⟩ := hA.open
  obtain ⟨xa, xc, rfl, hxl⟩ := hl.open'
  have hcp := hcap _ _ _ rfl
  clear hcap
  have hm := (Mut.refl (fun _ => False) w).alloc (.cells #[.slice a1 A.ranks.length c1, .slice a2 A.final.length c2, .slice a3 A.to.length c3] 26)
  have hB := BoxA.mk' w (.slice a1 A.ranks.length c1) (.slice a2 A.final.length c2) (.slice a3 A.to.length c3) 26
  have hfw := few_any _ _ _ _ A (hA0.out.fix hm)
  rw [hf] at hfw
  obtain ⟨ls, rfl⟩ : ∃ ls, ls = l := ⟨_, rfl⟩
  have hlm := hl0.fix hm
  replace hB := Lib.hid hB
  replace hlm := Lib.hid hlm
  replace hfw := Lib.hid hfw
  replace hm := Lib.hid hm
  clear hA hl hl0 hf
  go_enter Try.func4, Try.ntmps4
  go_wp2_with fail
  refine hfw.out.mono ?_
  rintro e w1 ⟨rfl, hm1⟩
  obtain ⟨k0, k1, k2⟩ := hB.out.fix hm1
  replace hlm := Lib.hid (hlm.out.fix hm1)
  replace hB := Lib.hid (hB.out.fix hm1)
  replace hm := Lib.hid (hm.out.trans hm1)
  clear hm1
  go_wp2_with fail
  refine (from_any _ _ _ _ _ _ _ _ _ _ _ _ rfl rfl rfl _).mono ?_
  rintro e w2 ⟨rfl, hm1⟩
  replace hlm := Lib.hid (hlm.out.fix hm1)
  replace hB := Lib.hid (hB.out.fix hm1)
  replace hm := Lib.hid (hm.out.trans hm1)
  have hA2 := Lib.hid (hA0.out.fix hm.out)
  clear hm1 k0 k1 k2
  go_wp2_with fail
  refine (step_any _ _ _ _ A s ls _ hA2.out hlm.out).mono ?_
  unfold StepPost2
  rintro e w3 ⟨rfl, hm1⟩
  replace hlm := Lib.hid (hlm.out.fix hm1)
  replace hB := Lib.hid (hB.out.fix hm1)
  obtain ⟨k0, k1, k2⟩ := hB.out
  replace hm := Lib.hid (hm.out.trans hm1)
  have hA3 := Lib.hid (hA0.out.fix hm.out)
  have hc := rcheck_any _ _ _ A _ hA3.out
  clear hm1 hA2
  by_cases hk : chk A = 0
  rotate_left
  · rw [show stepP A s ls = (0, chk A) by unfold stepP; rw [if_pos hk]]
    have hne : ((chk A : Int) != 0) = true := by simp; exact hk
    have heq : ((chk A : Int) == (chk A : Int)) = true := by simp
    replace hc := Lib.hid hc
    generalize chk A = E at *
    replace hk := Lib.hid hk
    go_wp2_with fail
    refine hc.out.mono ?_
    rintro e w4 ⟨rfl, hm1⟩
    replace hm := Lib.hid (hm.out.trans hm1)
    clear hm1
    go_wp2_with fail
    refine (known_any _).mono ?_
    rintro e w5 ⟨rfl, hm1⟩
    replace hm := Lib.hid (hm.out.trans hm1)
    clear hm1
    go_wp2
    go_ret
    exact ⟨rfl, hm.out⟩
  · rw [show stepP A s ls = stepE A s ls by unfold stepP; rw [if_neg (by omega)]]
    rw [hk] at hc
    replace hc := Lib.hid hc
    have hok := Lib.hid (chk_ok hk)
    replace hk := Lib.hid hk
    have hst := Lib.hid (fun w4 (hm4 : Fix w3 w4) => rstep_any _ _ _ _ A s ls w4 (hA3.out.fix hm4) hok.out (hlm.out.fix hm4))
    unfold StepPost at hst
    generalize (stepE A s ls).1 = x1 at *
    generalize (stepE A s ls).2 = x2 at *
    have he1 : (x1 == x1) = true := by simp
    have he2 : ((x2 : Int) == (x2 : Int)) = true := by simp
    go_wp2_with fail
    refine hc.out.mono ?_
    rintro e w4 ⟨rfl, hm1⟩
    obtain ⟨k0', k1', k2'⟩ := hB.out.fix hm1
    have hst4 := Lib.hid (hst.out _ hm1)
    replace hm := Lib.hid (hm.out.trans hm1)
    clear hm1
    go_wp2_with fail
    refine hst4.out.mono ?_
    rintro e w5 ⟨rfl, hm1⟩
    replace hm := Lib.hid (hm.out.trans hm1)
    clear hm1
    go_wp2_with fail
    refine (known_any _).mono ?_
    rintro e w6 ⟨rfl, hm1⟩
    replace hm := Lib.hid (hm.out.trans hm1)
    clear hm1
    go_wp2
    go_ret
    exact ⟨rfl, hm.out⟩

set_option maxRecDepth 8000 in
set_option maxHeartbeats 4000000 in
theorem steplaw_long (v1 v2 v3 vl : Value) (A : Au) (s : Int) (l : List Int) (w : World) (hA : AuIn (fun _ => False) w v1 v2 v3 A) (hl : Ints (fun _ => False) w vl l) (hf : fewB A = true) (hcap : ∀ a n c, vl = .slice a n c → n ≤ c) (h5 : 5 < l.length) :
    Calls Try.prog 4 #[.agg #[v1, v2, v3], .int .i64 s, vl] w (TruePost w) := by
  have hA0 := Lib.hid hA
  have hl0 := hl
  obtain ⟨a1, c1, a2, c2, a3, c3, rfl, rfl, rfl, l1, l2, l3⟩ := hA.open
  obtain ⟨xa, xc, rfl, hxl⟩ := hl.open'
  have hcp := hcap _ _ _ rfl
  clear hcap
  have hm := (Mut.refl (fun _ => False) w).alloc (.cells #[.slice a1 A.ranks.length c1, .slice a2 A.final.length c2, .slice a3 A.to.length c3] 26)
  have hB := BoxA.mk' w (.slice a1 A.ranks.length c1) (.slice a2 A.final.length c2) (.slice a3 A.to.length c3) 26
  have hfw := few_any _ _ _ _ A (hA0.out.fix hm)
  rw [hf] at hfw
  obtain ⟨ls, hls⟩ : ∃ ls, ls = l.take 5 := ⟨_, rfl⟩
  have hlm : Ints (fun _ => False) (w.alloc (.cells #[.slice a1 A.ranks.length c1, .slice a2 A.final.length c2, .slice a3 A.to.length c3] 26)) (.slice xa 5 xc) ls := by rw [hls]; exact Ints.take (hl0.fix hm) (by omega)
  replace hls := Lib.hid hls
  replace hB := Lib.hid hB
  replace hlm := Lib.hid hlm
  replace hfw := Lib.hid hfw
  replace hm := Lib.hid hm
  clear hA hl hl0 hf
  go_enter Try.func4, Try.ntmps4
  go_wp2_with fail
  refine hfw.out.mono ?_
  rintro e w1 ⟨rfl, hm1⟩
  obtain ⟨k0, k1, k2⟩ := hB.out.fix hm1
  replace hlm := Lib.hid (hlm.out.fix hm1)
  replace hB := Lib.hid (hB.out.fix hm1)
  replace hm := Lib.hid (hm.out.trans hm1)
  clear hm1
  go_wp2_with fail
  refine (from_any _ _ _ _ _ _ _ _ _ _ _ _ rfl rfl rfl _).mono ?_
  rintro e w2 ⟨rfl, hm1⟩
  replace hlm := Lib.hid (hlm.out.fix hm1)
  replace hB := Lib.hid (hB.out.fix hm1)
  replace hm := Lib.hid (hm.out.trans hm1)
  have hA2 := Lib.hid (hA0.out.fix hm.out)
  clear hm1 k0 k1 k2
  go_wp2_with fail
  refine (step_any _ _ _ _ A s ls _ hA2.out hlm.out).mono ?_
  unfold StepPost2
  rintro e w3 ⟨rfl, hm1⟩
  replace hlm := Lib.hid (hlm.out.fix hm1)
  replace hB := Lib.hid (hB.out.fix hm1)
  obtain ⟨k0, k1, k2⟩ := hB.out
  replace hm := Lib.hid (hm.out.trans hm1)
  have hA3 := Lib.hid (hA0.out.fix hm.out)
  have hc := rcheck_any _ _ _ A _ hA3.out
  clear hm1 hA2
  by_cases hk : chk A = 0
  rotate_left
  · rw [show stepP A s ls = (0, chk A) by unfold stepP; rw [if_pos hk]]
    have hne : ((chk A : Int) != 0) = true := by simp; exact hk
    have heq : ((chk A : Int) == (chk A : Int)) = true := by simp
    replace hc := Lib.hid hc
    generalize chk A = E at *
    replace hk := Lib.hid hk
    go_wp2_with fail
    refine hc.out.mono ?_
    rintro e w4 ⟨rfl, hm1⟩
    replace hm := Lib.hid (hm.out.trans hm1)
    clear hm1
    go_wp2_with fail
    refine (known_any _).mono ?_
    rintro e w5 ⟨rfl, hm1⟩
    replace hm := Lib.hid (hm.out.trans hm1)
    clear hm1
    go_wp2
    go_ret
    exact ⟨rfl, hm.out⟩
  · rw [show stepP A s ls = stepE A s ls by unfold stepP; rw [if_neg (by omega)]]
    rw [hk] at hc
    replace hc := Lib.hid hc
    have hok := Lib.hid (chk_ok hk)
    replace hk := Lib.hid hk
    have hst := Lib.hid (fun w4 (hm4 : Fix w3 w4) => rstep_any _ _ _ _ A s ls w4 (hA3.out.fix hm4) hok.out (hlm.out.fix hm4))
    unfold StepPost at hst
    generalize (stepE A s ls).1 = x1 at *
    generalize (stepE A s ls).2 = x2 at *
    have he1 : (x1 == x1) = true := by simp
    have he2 : ((x2 : Int) == (x2 : Int)) = true := by simp
    go_wp2_with fail
    refine hc.out.mono ?_
    rintro e w4 ⟨rfl, hm1⟩
    obtain ⟨k0', k1', k2'⟩ := hB.out.fix hm1
    have hst4 := Lib.hid (hst.out _ hm1)
    replace hm := Lib.hid (hm.out.trans hm1)
    clear hm1
    go_wp2_with fail
    refine hst4.out.mono ?_
    rintro e w5 ⟨rfl, hm1⟩
    replace hm := Lib.hid (hm.out.trans hm1)
    clear hm1
    go_wp2_with fail
    refine (known_any _).mono ?_
    rintro e w6 ⟨rfl, hm1⟩
    replace hm := Lib.hid (hm.out.trans hm1)
    clear hm1
    go_wp2
    go_ret
    exact ⟨rfl, hm.out⟩

theorem steplaw_walk (v1 v2 v3 vl : Value) (A : Au) (s : Int) (l : List Int) (w : World) (hA : AuIn (fun _ => False) w v1 v2 v3 A) (hl : Ints (fun _ => False) w vl l) (hcap : ∀ a n c, vl = .slice a n c → n ≤ c) :
    Calls Try.prog 4 #[.agg #[v1, v2, v3], .int .i64 s, vl] w fun e w' => e = .returned (.bool true) ∧ Below w.heap.size w w' := by
  have key : Calls Try.prog 4 #[.agg #[v1, v2, v3], .int .i64 s, vl] w (TruePost w) := by
    cases hf : fewB A with
    | false => exact steplaw_many v1 v2 v3 vl A s l w hA hl hf
    | true =>
      by_cases h5 : l.length ≤ 5
      · exact steplaw_short v1 v2 v3 vl A s l w hA hl hf hcap h5
      · exact steplaw_long v1 v2 v3 vl A s l w hA hl hf hcap (by omega)
  exact key.mono fun e w' h => ⟨h.1, h.2.below⟩
end Go.Proofs.Ytdakoccbmeojhaa
