/- DTAPermute returns true. Condition: an automaton and a list in memory. -/
import Derived.Test.YtdakoccbmeojhaaXa
set_option linter.unusedSimpArgs false
set_option linter.unusedVariables false
set_option maxHeartbeats 400000
namespace Go.Proofs.Ytdakoccbmeojhaa
open Go Go.RowKit Go.PP

theorem permlaw_many (v1 v2 v3 vl : Value) (A : Au) (l : List Int) (w : World) (hA : AuIn (fun _ => False) w v1 v2 v3 A) (hl : Ints (fun _ => False) w vl l) (hf : fewB A = false) :
    Calls Try.prog 6 #[.agg #[v1, v2, v3], vl] w (TruePost w) := by
  have hA0 := Lib.hid hA
  obtain ⟨a1, c1, a2, c2, a3, c3, rfl, rfl, rfl, l1, l2, l3⟩ := hA.open
  obtain ⟨xa, xc, rfl, hxl⟩ := hl.open'
  have hm := (Mut.refl (fun _ => False) w).alloc (.cells #[.slice a1 A.ranks.length c1, .slice a2 A.final.length c2, .slice a3 A.to.length c3] 26)
  have hfw := few_any _ _ _ _ A (hA0.out.fix hm)
  rw [hf] at hfw
  replace hfw := Lib.hid hfw
  replace hm := Lib.hid hm
  clear hA hl hf
  go_enter Try.func6, Try.ntmps6
  go_wp2_with fail
  refine hfw.out.mono ?_
  rintro e w1 ⟨rfl, hm1⟩
  replace hm := Lib.hid (hm.out.trans hm1)
  clear hm1
  go_wp2_with fail
  refine (known_any _).mono ?_
  rintro e w2 ⟨rfl, hm1⟩
  replace hm := Lib.hid (hm.out.trans hm1)
  clear hm1
  go_wp2
  go_ret
  exact ⟨rfl, hm.out⟩

/-- The shape of what a pair holds. -/
theorem PairPost.open {w : World} {E : Au × Nat} {e : Ending} {w' : World} (h : PairPost w E e w') : ∃ a1 c1 a2 c2 a3 c3, e = .returned (.tuple #[.agg #[.slice a1 E.1.ranks.length c1, .slice a2 E.1.final.length c2, .slice a3 E.1.to.length c3], .int .i64 E.2]) ∧
    AuIn (fun _ => False) w' (.slice a1 E.1.ranks.length c1) (.slice a2 E.1.final.length c2) (.slice a3 E.1.to.length c3) E.1 ∧ Fix w w' := by
  obtain ⟨v1, v2, v3, rfl, hA, m⟩ := h
  obtain ⟨a1, c1, a2, c2, a3, c3, rfl, rfl, rfl, -, -, -⟩ := hA.open
  exact ⟨_, _, _, _, _, _, rfl, hA, m⟩
theorem eqAu_self' (A : Au) : eqAu A A = true := by simp [eqAu]

set_option maxRecDepth 8000 in
set_option maxHeartbeats 8000000 in
theorem permlaw_short (v1 v2 v3 vl : Value) (A : Au) (l : List Int) (w : World) (hA : AuIn (fun _ => False) w v1 v2 v3 A) (hl : Ints (fun _ => False) w vl l) (hf : fewB A = true) (hcap : ∀ a n c, vl = .slice a n c → n ≤ c) (h5 : l.length ≤ 8) :
    Calls Try.prog 6 #[.agg #[v1, v2, v3], vl] w (TruePost w) := by
  have hA0 := Lib.hid hA
  have hl0 := hl
  obtain ⟨a1, c1, a2, c2, a3, c3, rfl, rfl, rfl, l1, l2, l3⟩ := hA.open
  obtain ⟨xa, xc, rfl, hxl⟩ := hl.open'
  have hcp := hcap _ _ _ rfl
  clear hcap
  have hm := (Mut.refl (fun _ => False) w).alloc (.cells #[.slice a1 A.ranks.length c1, .slice a2 A.final.length c2, .slice a3 A.to.length c3] 26)
  have hB := BoxA.mk' w (.slice a1 A.ranks.length c1) (.slice a2 A.final.length c2) (.slice a3 A.to.length c3) 26
  have hfw := few_any _ _ _ _ A (hA0.out.fix hm)
  rw [hf] at hfw
  obtain ⟨ls, rfl⟩ : ∃ ls, ls = l := ⟨_, rfl⟩
  have hlm := hl0.fix hm
  replace hB := Lib.hid hB
  replace hlm := Lib.hid hlm
  replace hfw := Lib.hid hfw
  replace hm := Lib.hid hm
  clear hA hl hl0 hf
  go_enter Try.func6, Try.ntmps6
  go_wp2_with fail
  refine hfw.out.mono ?_
  rintro e w1 ⟨rfl, hm1⟩
  obtain ⟨k0, k1, k2⟩ := hB.out.fix hm1
  replace hlm := Lib.hid (hlm.out.fix hm1)
  replace hB := Lib.hid (hB.out.fix hm1)
  replace hm := Lib.hid (hm.out.trans hm1)
  clear hm1 hfw
  go_wp2_with fail
  refine (from_any _ _ _ _ _ _ _ _ _ _ _ _ rfl rfl rfl _).mono ?_
  rintro e w2 ⟨rfl, hm1⟩
  replace hlm := Lib.hid (hlm.out.fix hm1)
  replace hB := Lib.hid (hB.out.fix hm1)
  replace hm := Lib.hid (hm.out.trans hm1)
  have hA2 := Lib.hid (hA0.out.fix hm.out)
  clear hm1 k0 k1 k2
  go_wp2_with fail
  refine (permute_any A ls _ _ _ _ _ hA2.out hlm.out).mono ?_
  intro e w3 hPP
  obtain ⟨x1, y1, x2, y2, x3, y3, rfl, hX, hm1⟩ := hPP.open
  replace hlm := Lib.hid (hlm.out.fix hm1)
  replace hB := Lib.hid (hB.out.fix hm1)
  replace hm := Lib.hid (hm.out.trans hm1)
  clear hm1 hA2 hPP
  generalize hE : permuteE A ls = E at *
  replace hE := Lib.hid hE
  obtain ⟨EA, EN⟩ := E
  simp only at hX
  have hXB := BoxA.mk' w3 (.slice x1 EA.ranks.length y1) (.slice x2 EA.final.length y2) (.slice x3 EA.to.length y3) 35
  have hm4 := (Mut.refl (fun _ => False) w3).alloc (.cells #[.slice x1 EA.ranks.length y1, .slice x2 EA.final.length y2, .slice x3 EA.to.length y3] 35)
  replace hX := Lib.hid (hX.fix hm4)
  have hlm4 := Lib.hid (hlm.out.fix hm4)
  have hB4 := Lib.hid (hB.out.fix hm4)
  have hm5 := Lib.hid (hm.out.trans hm4)
  obtain ⟨k0, k1, k2⟩ := hB4.out
  have hA4 := Lib.hid (hA0.out.fix hm5.out)
  have hc := rcheck_any _ _ _ A _ hA4.out
  replace hXB := Lib.hid hXB
  clear hm4 hlm hB hm
  by_cases hk : chk A = 0
  rotate_left
  · have hEE := hE.out
    rw [permuteE_bad hk] at hEE
    simp only [Prod.mk.injEq] at hEE
    obtain ⟨rfl, rfl⟩ := hEE
    have hne : ((chk A : Int) != 0) = true := by simp; exact hk
    have heq : ((chk A : Int) == (chk A : Int)) = true := by simp
    replace hc := Lib.hid hc
    clear hE
    have hA00r : A00.ranks.length = 0 := rfl
    have hA00f : A00.final.length = 0 := rfl
    have hA00t : A00.to.length = 0 := rfl
    simp only [hA00r, hA00f, hA00t] at *
    clear hA00r hA00f hA00t
    generalize chk A = E at *
    replace hk := Lib.hid hk
    go_wp2_with fail
    generalize w3.alloc (.cells #[.slice x1 0 y1, .slice x2 0 y2, .slice x3 0 y3] 35) = wx at *
    refine hc.out.mono ?_
    rintro e w4 ⟨rfl, hm1⟩
    replace hXB := Lib.hid (hXB.out.fix hm1)
    replace hX := Lib.hid (hX.out.fix hm1)
    replace hm5 := Lib.hid (hm5.out.trans hm1)
    clear hm1 k0 k1 k2 hc hA4 hB4 hlm4
    go_wp2_with fail
    refine (known_any _).mono ?_
    rintro e w5 ⟨rfl, hm1⟩
    replace hXB := Lib.hid (hXB.out.fix hm1)
    replace hX := Lib.hid (hX.out.fix hm1)
    replace hm5 := Lib.hid (hm5.out.trans hm1)
    obtain ⟨j0, j1, j2⟩ := hXB.out
    clear hm1
    go_wp2_with fail
    refine (to_any _ _ _ _ _ _ _ _ _ _ _ _ rfl rfl rfl _).mono ?_
    rintro e w6 ⟨rfl, hm1⟩
    replace hX := Lib.hid (hX.out.fix hm1)
    replace hm5 := Lib.hid (hm5.out.trans hm1)
    clear hm1 j0 j1 j2 hXB
    go_wp2_with fail
    have hs := same_any A00 A00 _ _ _ (.slice none 0 0) (.slice none 0 0) (.slice none 0 0) w6 hX.out (au00 _ _)
    rw [eqAu_self'] at hs
    refine hs.mono ?_
    rintro e w7 ⟨rfl, hm1⟩
    replace hm5 := Lib.hid (hm5.out.trans hm1)
    clear hm1 hs
    go_wp2
    go_ret
    exact ⟨rfl, hm5.out⟩
  · have hEE := hE.out
    rw [permuteE_ok hk] at hEE
    rw [hk] at hc
    have hok := Lib.hid (chk_ok hk)
    have htn := Lib.hid (fun w4 (hm4 : Fix _ w4) => turn_any A hok.out ls _ _ _ _ w4 (hA4.out.fix hm4) (hlm4.out.fix hm4))
    rw [hEE] at htn
    have heq : ((EN : Int) == (EN : Int)) = true := by simp
    replace hc := Lib.hid hc
    replace hk := Lib.hid hk
    replace hEE := Lib.hid hEE
    clear hE
    go_wp2_with fail
    generalize w3.alloc (.cells #[.slice x1 EA.ranks.length y1, .slice x2 EA.final.length y2, .slice x3 EA.to.length y3] 35) = wx at *
    refine hc.out.mono ?_
    rintro e w4 ⟨rfl, hm1⟩
    replace htn := Lib.hid (htn.out _ hm1)
    obtain ⟨z0, z1, z2⟩ := hB4.out.fix hm1
    replace hXB := Lib.hid (hXB.out.fix hm1)
    replace hX := Lib.hid (hX.out.fix hm1)
    replace hm5 := Lib.hid (hm5.out.trans hm1)
    clear hm1 k0 k1 k2 hc hA4 hB4 hlm4
    go_wp2_with fail
    refine htn.out.mono ?_
    intro e w5 hPP
    obtain ⟨p1, q1, p2, q2, p3, q3, rfl, hY, hm1⟩ := hPP.open
    simp only at hY
    clear hPP z0 z1 z2 htn
    replace hm1 := hm1.alloc (.cells #[.slice p1 EA.ranks.length q1, .slice p2 EA.final.length q2, .slice p3 EA.to.length q3] 26)
    have hYB := Lib.hid (BoxA.mk' w5 (.slice p1 EA.ranks.length q1) (.slice p2 EA.final.length q2) (.slice p3 EA.to.length q3) 26)
    replace hY := Lib.hid (hY.fix ((Mut.refl (fun _ => False) w5).alloc (.cells #[.slice p1 EA.ranks.length q1, .slice p2 EA.final.length q2, .slice p3 EA.to.length q3] 26)))
    replace hXB := Lib.hid (hXB.out.fix hm1)
    replace hX := Lib.hid (hX.out.fix hm1)
    replace hm5 := Lib.hid (hm5.out.trans hm1)
    clear hm1
    obtain ⟨j0, j1, j2⟩ := hXB.out
    obtain ⟨i0, i1, i2⟩ := hYB.out
    go_wp2
    try simp only [Act.put, List.setIfInBounds_toArray, List.set_cons_succ, List.set_cons_zero]
    generalize w5.alloc (.cells #[.slice p1 EA.ranks.length q1, .slice p2 EA.final.length q2, .slice p3 EA.to.length q3] 26) = wy at *
    have hS := Lib.hid (show Fix wy wy.drew from (Mut.refl _ _).drew)
    have hne' := Cls.ne hS.out
    refine wp_plan (Fix wy) [0, 1, 2, 3, 4, 5, 6, 7, 8, 9] [([], some 0), ([1, 2, 3, 4, 5, 6, 7, 9], some 8)] [10, 11, 12] (by kernel_rfl) (by kernel_rfl) ?_
    refine ⟨Of.mk hS.out, ?_⟩
    simp only [wpPlan, pickOps_cons, pickOps_nil, List.getElem?_cons_zero, List.getElem?_cons_succ, pickOp_some]
    have s0 := fun x : Cls (Fix wy) => x.ok.cell j0 (by simp)
    have s1 := fun x : Cls (Fix wy) => x.ok.cell j1 (by simp)
    have s2 := fun x : Cls (Fix wy) => x.ok.cell j2 (by simp)
    have s3 := fun x : Cls (Fix wy) => x.ok.cell i0 (by simp)
    have s4 := fun x : Cls (Fix wy) => x.ok.cell i1 (by simp)
    have s5 := fun x : Cls (Fix wy) => x.ok.cell i2 (by simp)
    refine wpQuiet_nil ?_
    go_wp2_with fail
    refine (known_any _).mono ?_
    rintro e w6 ⟨rfl, hm1⟩
    have hS2 := Lib.hid (hS.out.trans hm1)
    clear hm1 hS
    go_wp2
    refine ⟨fun _ => Of.mk hS2.out, Of.mk hS2.out, ?_⟩
    repeat (go_big_quiet_step (fail))
    refine wpQuiet_nil ?_
    go_wp2_with fail
    refine (to_any _ _ _ _ _ _ _ _ _ _ _ _ rfl rfl rfl _).mono ?_
    rintro e w7 ⟨rfl, hm1⟩
    have hS3 := Lib.hid (hS2.out.trans hm1)
    clear hm1 hS2 s0 s1 s2 s3 s4 s5
    have hs := same_any EA EA _ _ _ _ _ _ w7 (hX.out.fix hS3.out) (hY.out.fix hS3.out)
    rw [eqAu_self'] at hs
    go_wp2
    refine ⟨fun _ => Of.mk hS3.out, ?_⟩
    go_wp2_with fail
    refine hs.mono ?_
    rintro e w8 ⟨rfl, hm1⟩
    replace hm5 := Lib.hid ((hm5.out.trans hS3.out).trans hm1)
    clear hm1 hs
    go_wp2
    refine NoPanic.normal ?_
    go_wp2
    go_ret
    exact ⟨rfl, hm5.out⟩

set_option maxRecDepth 8000 in
set_option maxHeartbeats 8000000 in
theorem permlaw_long (v1 v2 v3 vl : Value) (A : Au) (l : List Int) (w : World) (hA : AuIn (fun _ => False) w v1 v2 v3 A) (hl : Ints (fun _ => False) w vl l) (hf : fewB A = true) (hcap : ∀ a n c, vl = .slice a n c → n ≤ c) (h5 : 8 < l.length) :
    Calls Try.prog 6 #[.agg #[v1, v2, v3], vl] w (TruePost w) := by
  have hA0 := Lib.hid hA
  have hl0 := hl
  obtain ⟨a1, c1, a2, c2, a3, c3, rfl, rfl, rfl, l1, l2, l3⟩ := hA.open
  obtain ⟨xa, xc, rfl, hxl⟩ := hl.open'
  have hcp := hcap _ _ _ rfl
  clear hcap
  have hm := (Mut.refl (fun _ => False) w).alloc (.cells #[.slice a1 A.ranks.length c1, .slice a2 A.final.length c2, .slice a3 A.to.length c3] 26)
  have hB := BoxA.mk' w (.slice a1 A.ranks.length c1) (.slice a2 A.final.length c2) (.slice a3 A.to.length c3) 26
  have hfw := few_any _ _ _ _ A (hA0.out.fix hm)
  rw [hf] at hfw
  obtain ⟨ls, hls⟩ : ∃ ls, ls = l.take 8 := ⟨_, rfl⟩
  have hlm : Ints (fun _ => False) (w.alloc (.cells #[.slice a1 A.ranks.length c1, .slice a2 A.final.length c2, .slice a3 A.to.length c3] 26)) (.slice xa 8 xc) ls := by rw [hls]; exact Ints.take (hl0.fix hm) (by omega)
  replace hls := Lib.hid hls
  replace hB := Lib.hid hB
  replace hlm := Lib.hid hlm
  replace hfw := Lib.hid hfw
  replace hm := Lib.hid hm
  clear hA hl hl0 hf
  go_enter Try.func6, Try.ntmps6
  go_wp2_with fail
  refine hfw.out.mono ?_
  rintro e w1 ⟨rfl, hm1⟩
  obtain ⟨k0, k1, k2⟩ := hB.out.fix hm1
  replace hlm := Lib.hid (hlm.out.fix hm1)
  replace hB := Lib.hid (hB.out.fix hm1)
  replace hm := Lib.hid (hm.out.trans hm1)
  clear hm1 hfw
  go_wp2_with fail
  refine (from_any _ _ _ _ _ _ _ _ _ _ _ _ rfl rfl rfl _).mono ?_
  rintro e w2 ⟨rfl, hm1⟩
  replace hlm := Lib.hid (hlm.out.fix hm1)
  replace hB := Lib.hid (hB.out.fix hm1)
  replace hm := Lib.hid (hm.out.trans hm1)
  have hA2 := Lib.hid (hA0.out.fix hm.out)
  clear hm1 k0 k1 k2
  go_wp2_with fail
  refine (permute_any A ls _ _ _ _ _ hA2.out hlm.out).mono ?_
  intro e w3 hPP
  obtain ⟨x1, y1, x2, y2, x3, y3, rfl, hX, hm1⟩ := hPP.open
  replace hlm := Lib.hid (hlm.out.fix hm1)
  replace hB := Lib.hid (hB.out.fix hm1)
  replace hm := Lib.hid (hm.out.trans hm1)
  clear hm1 hA2 hPP
  generalize hE : permuteE A ls = E at *
  replace hE := Lib.hid hE
  obtain ⟨EA, EN⟩ := E
  simp only at hX
  have hXB := BoxA.mk' w3 (.slice x1 EA.ranks.length y1) (.slice x2 EA.final.length y2) (.slice x3 EA.to.length y3) 35
  have hm4 := (Mut.refl (fun _ => False) w3).alloc (.cells #[.slice x1 EA.ranks.length y1, .slice x2 EA.final.length y2, .slice x3 EA.to.length y3] 35)
  replace hX := Lib.hid (hX.fix hm4)
  have hlm4 := Lib.hid (hlm.out.fix hm4)
  have hB4 := Lib.hid (hB.out.fix hm4)
  have hm5 := Lib.hid (hm.out.trans hm4)
  obtain ⟨k0, k1, k2⟩ := hB4.out
  have hA4 := Lib.hid (hA0.out.fix hm5.out)
  have hc := rcheck_any _ _ _ A _ hA4.out
  replace hXB := Lib.hid hXB
  clear hm4 hlm hB hm
  by_cases hk : chk A = 0
  rotate_left
  · have hEE := hE.out
    rw [permuteE_bad hk] at hEE
    simp only [Prod.mk.injEq] at hEE
    obtain ⟨rfl, rfl⟩ := hEE
    have hne : ((chk A : Int) != 0) = true := by simp; exact hk
    have heq : ((chk A : Int) == (chk A : Int)) = true := by simp
    replace hc := Lib.hid hc
    clear hE
    have hA00r : A00.ranks.length = 0 := rfl
    have hA00f : A00.final.length = 0 := rfl
    have hA00t : A00.to.length = 0 := rfl
    simp only [hA00r, hA00f, hA00t] at *
    clear hA00r hA00f hA00t
    generalize chk A = E at *
    replace hk := Lib.hid hk
    go_wp2_with fail
    generalize w3.alloc (.cells #[.slice x1 0 y1, .slice x2 0 y2, .slice x3 0 y3] 35) = wx at *
    refine hc.out.mono ?_
    rintro e w4 ⟨rfl, hm1⟩
    replace hXB := Lib.hid (hXB.out.fix hm1)
    replace hX := Lib.hid (hX.out.fix hm1)
    replace hm5 := Lib.hid (hm5.out.trans hm1)
    clear hm1 k0 k1 k2 hc hA4 hB4 hlm4
    go_wp2_with fail
    refine (known_any _).mono ?_
    rintro e w5 ⟨rfl, hm1⟩
    replace hXB := Lib.hid (hXB.out.fix hm1)
    replace hX := Lib.hid (hX.out.fix hm1)
    replace hm5 := Lib.hid (hm5.out.trans hm1)
    obtain ⟨j0, j1, j2⟩ := hXB.out
    clear hm1
    go_wp2_with fail
    refine (to_any _ _ _ _ _ _ _ _ _ _ _ _ rfl rfl rfl _).mono ?_
    rintro e w6 ⟨rfl, hm1⟩
    replace hX := Lib.hid (hX.out.fix hm1)
    replace hm5 := Lib.hid (hm5.out.trans hm1)
    clear hm1 j0 j1 j2 hXB
    go_wp2_with fail
    have hs := same_any A00 A00 _ _ _ (.slice none 0 0) (.slice none 0 0) (.slice none 0 0) w6 hX.out (au00 _ _)
    rw [eqAu_self'] at hs
    refine hs.mono ?_
    rintro e w7 ⟨rfl, hm1⟩
    replace hm5 := Lib.hid (hm5.out.trans hm1)
    clear hm1 hs
    go_wp2
    go_ret
    exact ⟨rfl, hm5.out⟩
  · have hEE := hE.out
    rw [permuteE_ok hk] at hEE
    rw [hk] at hc
    have hok := Lib.hid (chk_ok hk)
    have htn := Lib.hid (fun w4 (hm4 : Fix _ w4) => turn_any A hok.out ls _ _ _ _ w4 (hA4.out.fix hm4) (hlm4.out.fix hm4))
    rw [hEE] at htn
    have heq : ((EN : Int) == (EN : Int)) = true := by simp
    replace hc := Lib.hid hc
    replace hk := Lib.hid hk
    replace hEE := Lib.hid hEE
    clear hE
    go_wp2_with fail
    generalize w3.alloc (.cells #[.slice x1 EA.ranks.length y1, .slice x2 EA.final.length y2, .slice x3 EA.to.length y3] 35) = wx at *
    refine hc.out.mono ?_
    rintro e w4 ⟨rfl, hm1⟩
    replace htn := Lib.hid (htn.out _ hm1)
    obtain ⟨z0, z1, z2⟩ := hB4.out.fix hm1
    replace hXB := Lib.hid (hXB.out.fix hm1)
    replace hX := Lib.hid (hX.out.fix hm1)
    replace hm5 := Lib.hid (hm5.out.trans hm1)
    clear hm1 k0 k1 k2 hc hA4 hB4 hlm4
    go_wp2_with fail
    refine htn.out.mono ?_
    intro e w5 hPP
    obtain ⟨p1, q1, p2, q2, p3, q3, rfl, hY, hm1⟩ := hPP.open
    simp only at hY
    clear hPP z0 z1 z2 htn
    replace hm1 := hm1.alloc (.cells #[.slice p1 EA.ranks.length q1, .slice p2 EA.final.length q2, .slice p3 EA.to.length q3] 26)
    have hYB := Lib.hid (BoxA.mk' w5 (.slice p1 EA.ranks.length q1) (.slice p2 EA.final.length q2) (.slice p3 EA.to.length q3) 26)
    replace hY := Lib.hid (hY.fix ((Mut.refl (fun _ => False) w5).alloc (.cells #[.slice p1 EA.ranks.length q1, .slice p2 EA.final.length q2, .slice p3 EA.to.length q3] 26)))
    replace hXB := Lib.hid (hXB.out.fix hm1)
    replace hX := Lib.hid (hX.out.fix hm1)
    replace hm5 := Lib.hid (hm5.out.trans hm1)
    clear hm1
    obtain ⟨j0, j1, j2⟩ := hXB.out
    obtain ⟨i0, i1, i2⟩ := hYB.out
    go_wp2
    try simp only [Act.put, List.setIfInBounds_toArray, List.set_cons_succ, List.set_cons_zero]
    generalize w5.alloc (.cells #[.slice p1 EA.ranks.length q1, .slice p2 EA.final.length q2, .slice p3 EA.to.length q3] 26) = wy at *
    have hS := Lib.hid (show Fix wy wy.drew from (Mut.refl _ _).drew)
    have hne' := Cls.ne hS.out
    refine wp_plan (Fix wy) [0, 1, 2, 3, 4, 5, 6, 7, 8, 9] [([], some 0), ([1, 2, 3, 4, 5, 6, 7, 9], some 8)] [10, 11, 12] (by kernel_rfl) (by kernel_rfl) ?_
    refine ⟨Of.mk hS.out, ?_⟩
    simp only [wpPlan, pickOps_cons, pickOps_nil, List.getElem?_cons_zero, List.getElem?_cons_succ, pickOp_some]
    have s0 := fun x : Cls (Fix wy) => x.ok.cell j0 (by simp)
    have s1 := fun x : Cls (Fix wy) => x.ok.cell j1 (by simp)
    have s2 := fun x : Cls (Fix wy) => x.ok.cell j2 (by simp)
    have s3 := fun x : Cls (Fix wy) => x.ok.cell i0 (by simp)
    have s4 := fun x : Cls (Fix wy) => x.ok.cell i1 (by simp)
    have s5 := fun x : Cls (Fix wy) => x.ok.cell i2 (by simp)
    refine wpQuiet_nil ?_
    go_wp2_with fail
    refine (known_any _).mono ?_
    rintro e w6 ⟨rfl, hm1⟩
    have hS2 := Lib.hid (hS.out.trans hm1)
    clear hm1 hS
    go_wp2
    refine ⟨fun _ => Of.mk hS2.out, Of.mk hS2.out, ?_⟩
    repeat (go_big_quiet_step (fail))
    refine wpQuiet_nil ?_
    go_wp2_with fail
    refine (to_any _ _ _ _ _ _ _ _ _ _ _ _ rfl rfl rfl _).mono ?_
    rintro e w7 ⟨rfl, hm1⟩
    have hS3 := Lib.hid (hS2.out.trans hm1)
    clear hm1 hS2 s0 s1 s2 s3 s4 s5
    have hs := same_any EA EA _ _ _ _ _ _ w7 (hX.out.fix hS3.out) (hY.out.fix hS3.out)
    rw [eqAu_self'] at hs
    go_wp2
    refine ⟨fun _ => Of.mk hS3.out, ?_⟩
    go_wp2_with fail
    refine hs.mono ?_
    rintro e w8 ⟨rfl, hm1⟩
    replace hm5 := Lib.hid ((hm5.out.trans hS3.out).trans hm1)
    clear hm1 hs
    go_wp2
    refine NoPanic.normal ?_
    go_wp2
    go_ret
    exact ⟨rfl, hm5.out⟩

theorem permlaw_walk (v1 v2 v3 vl : Value) (A : Au) (l : List Int) (w : World) (hA : AuIn (fun _ => False) w v1 v2 v3 A) (hl : Ints (fun _ => False) w vl l) (hcap : ∀ a n c, vl = .slice a n c → n ≤ c) :
    Calls Try.prog 6 #[.agg #[v1, v2, v3], vl] w fun e w' => e = .returned (.bool true) ∧ Below w.heap.size w w' := by
  have key : Calls Try.prog 6 #[.agg #[v1, v2, v3], vl] w (TruePost w) := by
    cases hf : fewB A with
    | false => exact permlaw_many v1 v2 v3 vl A l w hA hl hf
    | true =>
      by_cases h5 : l.length ≤ 8
      · exact permlaw_short v1 v2 v3 vl A l w hA hl hf hcap h5
      · exact permlaw_long v1 v2 v3 vl A l w hA hl hf hcap (by omega)
  exact key.mono fun e w' h => ⟨h.1, h.2.below⟩
end Go.Proofs.Ytdakoccbmeojhaa
