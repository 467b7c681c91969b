/- Contracts: Run of the program and of the reference, Accepts, From. Condition: an automaton, a tree in memory. -/
import Derived.Test.YtdakoccbmeojhaaWg
set_option linter.unusedSimpArgs false
set_option linter.unusedVariables false
set_option maxHeartbeats 400000
namespace Go.Proofs.Ytdakoccbmeojhaa
open Go Go.RowKit Go.PP

theorem rightE_zero {d : Nat} {r : List Int} {t : Tr} (h : rightE d r t = 0) : nodesE d r t = 0 := by
  unfold rightE at h
  split at h
  · rename_i h1; exact absurd h h1
  · split at h
    · cases h
    · split at h
      · cases h
      · exact h
theorem runE_chk {d : Nat} {A : Au} {t : Tr} (h : chk A ≠ 0) : runE d A t = (0, chk A) := by unfold runE; rw [if_pos h]
theorem runE_right {d : Nat} {A : Au} {t : Tr} (h : chk A = 0) (h2 : rightE d A.ranks t ≠ 0) : runE d A t = (0, rightE d A.ranks t) := by unfold runE; rw [if_neg (by omega), if_pos h2]
theorem runE_good {d : Nat} {A : Au} {t : Tr} (h : chk A = 0) (h2 : rightE d A.ranks t = 0) : runE d A t = (stateT A d t, 0) := by unfold runE; rw [if_neg (by omega), if_neg (by omega)]

def RunPost (w : World) (d : Nat) (A : Au) (t : Tr) (e : Ending) (w' : World) : Prop := e = .returned (.tuple #[.int .i64 (runE d A t).1, .int .i64 (runE d A t).2]) ∧ Fix w w'

set_option maxRecDepth 8000 in
set_option maxHeartbeats 4000000 in
theorem run18_any (d : Nat) (A : Au) (s : Int) (v v1 v2 v3 : Value) (t : Tr) (w : World) (ht : TreeIn (fun _ => False) w d s v t) (hA : AuIn (fun _ => False) w v1 v2 v3 A) :
    Calls Try.prog 18 #[.agg #[v1, v2, v3], .agg #[.int .i64 s, v]] w (RunPost w d A t) := by
  have ht0 := Lib.hid ht
  have hA0 := Lib.hid hA
  obtain ⟨a, n, c, rfl⟩ := ht.shape
  obtain ⟨a1, c1, a2, c2, a3, c3, rfl, rfl, rfl, l1, l2, l3⟩ := hA.open
  clear ht hA
  have hB := BoxA.mk' w (.slice a1 A.ranks.length c1) (.slice a2 A.final.length c2) (.slice a3 A.to.length c3) 35
  have hm1 := (Mut.refl (fun _ => False) w).alloc (.cells #[.slice a1 A.ranks.length c1, .slice a2 A.final.length c2, .slice a3 A.to.length c3] 35)
  have hT := BoxT.mk' (w.alloc (.cells #[.slice a1 A.ranks.length c1, .slice a2 A.final.length c2, .slice a3 A.to.length c3] 35)) s (.slice a n c) 39
  have hB2 := hB.fix ((Mut.refl (fun _ => False) _).alloc (.cells #[.int .i64 s, .slice a n c] 39))
  have hm2 := hm1.alloc (.cells #[.int .i64 s, .slice a n c] 39)
  rw [show (w.alloc (.cells #[.slice a1 A.ranks.length c1, .slice a2 A.final.length c2, .slice a3 A.to.length c3] 35)).heap.size = w.heap.size + 1 from by simp] at hT
  have ht2 := Lib.hid (ht0.out.fix hm2)
  have hA2 := Lib.hid (hA0.out.fix hm2)
  replace hB2 := Lib.hid hB2
  replace hT := Lib.hid hT
  replace hm2 := Lib.hid hm2
  clear hB hm1
  have hc := Lib.hid (check_any _ _ _ A _ hA2.out)
  unfold RunPost
  by_cases h1 : chk A = 0
  rotate_left
  · rw [runE_chk h1]
    have hne : ((chk A : Int) != 0) = true := by simp; exact h1
    generalize chk A = E at *
    replace h1 := Lib.hid h1
    go_enter Try.func18, Try.ntmps18
    go_wp2_with fail
    refine hc.out.mono ?_
    rintro e w1 ⟨rfl, hm1⟩
    replace hm2 := Lib.hid (hm2.out.trans hm1)
    clear hm1
    go_wp2
    go_ret2
    exact ⟨rfl, hm2.out⟩
  have hok := Lib.hid (chk_ok h1)
  rw [h1] at hc
  have hv := Lib.hid (fun w1 (hm1 : Fix _ w1) => valid_any d s _ _ t A.ranks w1 (ht2.out.fix hm1) (hA2.out.r.fix hm1))
  by_cases h2 : rightE d A.ranks t = 0
  rotate_left
  · rw [runE_right h1 h2]
    have hne : ((rightE d A.ranks t : Int) != 0) = true := by simp; exact h2
    generalize rightE d A.ranks t = E at *
    replace h1 := Lib.hid h1
    replace h2 := Lib.hid h2
    go_enter Try.func18, Try.ntmps18
    go_wp2_with fail
    refine hc.out.mono ?_
    rintro e w1 ⟨rfl, hm1⟩
    obtain ⟨k0, k1, k2⟩ := hB2.out.fix hm1
    obtain ⟨t0, t1⟩ := hT.out.fix hm1
    have hv1 := Lib.hid (hv.out _ hm1)
    replace hm2 := Lib.hid (hm2.out.trans hm1)
    clear hm1
    go_wp2_with fail
    refine hv1.out.mono ?_
    rintro e w2 ⟨rfl, hm1⟩
    replace hm2 := Lib.hid (hm2.out.trans hm1)
    clear hm1
    go_wp2
    go_ret2
    exact ⟨rfl, hm2.out⟩
  rw [runE_good h1 h2]
  rw [h2] at hv
  have hr := Lib.hid (fun w1 (hm1 : Fix _ w1) => run_any A hok.out _ _ _ d s _ t w1 (ht2.out.fix hm1) (rightE_zero h2) (hA2.out.fix hm1))
  generalize stateT A d t = y at *
  replace h1 := Lib.hid h1
  replace h2 := Lib.hid h2
  go_enter Try.func18, Try.ntmps18
  go_wp2_with fail
  refine hc.out.mono ?_
  rintro e w1 ⟨rfl, hm1⟩
  obtain ⟨k0, k1, k2⟩ := hB2.out.fix hm1
  obtain ⟨t0, t1⟩ := hT.out.fix hm1
  have hv1 := Lib.hid (hv.out _ hm1)
  have hf1 := Lib.hid hm1
  replace hm2 := Lib.hid (hm2.out.trans hm1)
  clear hm1
  go_wp2_with fail
  refine hv1.out.mono ?_
  rintro e w2 ⟨rfl, hm1⟩
  obtain ⟨k0, k1, k2⟩ := hB2.out.fix (hf1.out.trans hm1)
  obtain ⟨t0, t1⟩ := hT.out.fix (hf1.out.trans hm1)
  have hr1 := Lib.hid (hr.out _ (hf1.out.trans hm1))
  replace hm2 := Lib.hid (hm2.out.trans hm1)
  clear hm1
  go_wp2_with fail
  refine hr1.out.mono ?_
  rintro e w3 ⟨rfl, hm1⟩
  replace hm2 := Lib.hid (hm2.out.trans hm1)
  clear hm1
  go_wp2
  go_ret2
  exact ⟨rfl, hm2.out⟩

set_option maxRecDepth 8000 in
set_option maxHeartbeats 4000000 in
theorem run19_any (d : Nat) (A : Au) (s : Int) (v v1 v2 v3 : Value) (t : Tr) (w : World) (ht : TreeIn (fun _ => False) w d s v t) (hA : AuIn (fun _ => False) w v1 v2 v3 A) :
    Calls Try.prog 19 #[.agg #[v1, v2, v3], .agg #[.int .i64 s, v]] w (RunPost w d A t) := by
  have ht0 := Lib.hid ht
  have hA0 := Lib.hid hA
  obtain ⟨a, n, c, rfl⟩ := ht.shape
  obtain ⟨a1, c1, a2, c2, a3, c3, rfl, rfl, rfl, l1, l2, l3⟩ := hA.open
  clear ht hA
  have hB := BoxA.mk' w (.slice a1 A.ranks.length c1) (.slice a2 A.final.length c2) (.slice a3 A.to.length c3) 26
  have hm1 := (Mut.refl (fun _ => False) w).alloc (.cells #[.slice a1 A.ranks.length c1, .slice a2 A.final.length c2, .slice a3 A.to.length c3] 26)
  have hT := BoxT.mk' (w.alloc (.cells #[.slice a1 A.ranks.length c1, .slice a2 A.final.length c2, .slice a3 A.to.length c3] 26)) s (.slice a n c) 29
  have hB2 := hB.fix ((Mut.refl (fun _ => False) _).alloc (.cells #[.int .i64 s, .slice a n c] 29))
  have hm2 := hm1.alloc (.cells #[.int .i64 s, .slice a n c] 29)
  rw [show (w.alloc (.cells #[.slice a1 A.ranks.length c1, .slice a2 A.final.length c2, .slice a3 A.to.length c3] 26)).heap.size = w.heap.size + 1 from by simp] at hT
  have ht2 := Lib.hid (ht0.out.fix hm2)
  have hA2 := Lib.hid (hA0.out.fix hm2)
  replace hB2 := Lib.hid hB2
  replace hT := Lib.hid hT
  replace hm2 := Lib.hid hm2
  clear hB hm1
  have hc := Lib.hid (rcheck_any _ _ _ A _ hA2.out)
  unfold RunPost
  by_cases h1 : chk A = 0
  rotate_left
  · rw [runE_chk h1]
    have hne : ((chk A : Int) != 0) = true := by simp; exact h1
    generalize chk A = E at *
    replace h1 := Lib.hid h1
    go_enter Try.func19, Try.ntmps19
    go_wp2_with fail
    refine hc.out.mono ?_
    rintro e w1 ⟨rfl, hm1⟩
    replace hm2 := Lib.hid (hm2.out.trans hm1)
    clear hm1
    go_wp2
    go_ret2
    exact ⟨rfl, hm2.out⟩
  have hok := Lib.hid (chk_ok h1)
  rw [h1] at hc
  have hv := Lib.hid (fun w1 (hm1 : Fix _ w1) => right_any d s _ _ t A.ranks w1 (ht2.out.fix hm1) (hA2.out.r.fix hm1))
  by_cases h2 : rightE d A.ranks t = 0
  rotate_left
  · rw [runE_right h1 h2]
    have hne : ((rightE d A.ranks t : Int) != 0) = true := by simp; exact h2
    generalize rightE d A.ranks t = E at *
    replace h1 := Lib.hid h1
    replace h2 := Lib.hid h2
    go_enter Try.func19, Try.ntmps19
    go_wp2_with fail
    refine hc.out.mono ?_
    rintro e w1 ⟨rfl, hm1⟩
    obtain ⟨k0, k1, k2⟩ := hB2.out.fix hm1
    obtain ⟨t0, t1⟩ := hT.out.fix hm1
    have hv1 := Lib.hid (hv.out _ hm1)
    replace hm2 := Lib.hid (hm2.out.trans hm1)
    clear hm1
    go_wp2_with fail
    refine hv1.out.mono ?_
    rintro e w2 ⟨rfl, hm1⟩
    replace hm2 := Lib.hid (hm2.out.trans hm1)
    clear hm1
    go_wp2
    go_ret2
    exact ⟨rfl, hm2.out⟩
  rw [runE_good h1 h2]
  rw [h2] at hv
  have hr := Lib.hid (fun w1 (hm1 : Fix _ w1) => rstate_any A hok.out _ _ _ d s _ t w1 (ht2.out.fix hm1) (rightE_zero h2) (hA2.out.fix hm1))
  generalize stateT A d t = y at *
  replace h1 := Lib.hid h1
  replace h2 := Lib.hid h2
  go_enter Try.func19, Try.ntmps19
  go_wp2_with fail
  refine hc.out.mono ?_
  rintro e w1 ⟨rfl, hm1⟩
  obtain ⟨k0, k1, k2⟩ := hB2.out.fix hm1
  obtain ⟨t0, t1⟩ := hT.out.fix hm1
  have hv1 := Lib.hid (hv.out _ hm1)
  have hf1 := Lib.hid hm1
  replace hm2 := Lib.hid (hm2.out.trans hm1)
  clear hm1
  go_wp2_with fail
  refine hv1.out.mono ?_
  rintro e w2 ⟨rfl, hm1⟩
  obtain ⟨k0, k1, k2⟩ := hB2.out.fix (hf1.out.trans hm1)
  obtain ⟨t0, t1⟩ := hT.out.fix (hf1.out.trans hm1)
  have hr1 := Lib.hid (hr.out _ (hf1.out.trans hm1))
  replace hm2 := Lib.hid (hm2.out.trans hm1)
  clear hm1
  go_wp2_with fail
  refine hr1.out.mono ?_
  rintro e w3 ⟨rfl, hm1⟩
  replace hm2 := Lib.hid (hm2.out.trans hm1)
  clear hm1
  go_wp2
  go_ret2
  exact ⟨rfl, hm2.out⟩

noncomputable def acceptsB (d : Nat) (A : Au) (t : Tr) : Bool := (runE d A t).2 == 0 && A.final.getD (runE d A t).1.toNat false

set_option maxRecDepth 8000 in
set_option maxHeartbeats 4000000 in
theorem accepts_any (d : Nat) (A : Au) (s : Int) (v v1 v2 v3 : Value) (t : Tr) (w : World) (ht : TreeIn (fun _ => False) w d s v t) (hA : AuIn (fun _ => False) w v1 v2 v3 A) :
    Calls Try.prog 22 #[.agg #[v1, v2, v3], .agg #[.int .i64 s, v]] w (RetPost w (.bool (acceptsB d A t))) := by
  have ht0 := Lib.hid ht
  have hA0 := Lib.hid hA
  obtain ⟨a, n, c, rfl⟩ := ht.shape
  obtain ⟨a1, c1, a2, c2, a3, c3, rfl, rfl, rfl, l1, l2, l3⟩ := hA.open
  clear ht hA
  have hB := BoxA.mk' w (.slice a1 A.ranks.length c1) (.slice a2 A.final.length c2) (.slice a3 A.to.length c3) 35
  have hm1 := (Mut.refl (fun _ => False) w).alloc (.cells #[.slice a1 A.ranks.length c1, .slice a2 A.final.length c2, .slice a3 A.to.length c3] 35)
  have hB2 := hB.fix ((Mut.refl (fun _ => False) _).alloc (.cells #[.int .i64 s, .slice a n c] 39))
  have hm2 := hm1.alloc (.cells #[.int .i64 s, .slice a n c] 39)
  have hr := run18_any d A s _ _ _ _ t _ (ht0.out.fix hm2) (hA0.out.fix hm2)
  have hA2 := Lib.hid (hA0.out.fix hm2)
  replace hB2 := Lib.hid hB2
  replace hm2 := Lib.hid hm2
  clear hB hm1
  unfold RunPost at hr
  unfold acceptsB
  by_cases h1 : (runE d A t).2 = 0
  · have hgood : chk A = 0 ∧ nodesE d A.ranks t = 0 ∧ (runE d A t).1 = stateT A d t := by
      by_cases h2 : chk A = 0
      · by_cases h3 : rightE d A.ranks t = 0
        · exact ⟨h2, rightE_zero h3, by rw [runE_good h2 h3]⟩
        · rw [runE_right h2 h3] at h1; exact absurd h1 h3
      · rw [runE_chk h2] at h1; exact absurd h1 h2
    obtain ⟨g1, g2, g3⟩ := hgood
    obtain ⟨b1, b2⟩ := state_rng (chk_ok g1) d t g2
    rw [h1, g3] at hr
    rw [h1, g3]
    obtain ⟨y, hy⟩ := Int.eq_ofNat_of_zero_le b1
    rw [hy] at hr b2 ⊢
    have hyl : y < A.final.length := by omega
    replace hr := Lib.hid hr
    replace g1 := Lib.hid g1
    replace g2 := Lib.hid g2
    replace g3 := Lib.hid g3
    replace h1 := Lib.hid h1
    replace hy := Lib.hid hy
    obtain ⟨bq, hbq⟩ : ∃ bq, A.final[y]? = some bq := ⟨A.final[y], by simp⟩
    rw [show ((0 : Nat) == 0 && A.final.getD (y : Int).toNat false) = bq by simp [List.getD, hbq]]
    replace hbq := Lib.hid hbq
    go_enter Try.func22, Try.ntmps22
    go_wp2_with fail
    refine hr.out.mono ?_
    rintro e w1 ⟨rfl, hm1⟩
    obtain ⟨k0, k1, k2⟩ := hB2.out.fix hm1
    obtain ⟨b, off, x, rfl, hx, hcx⟩ := (hA2.out.f.fix hm1).slot (Mut.refl _ _) hyl
    obtain rfl : bq = x := by rw [hbq.out] at hx; exact Option.some.inj hx
    replace hm2 := Lib.hid (hm2.out.trans hm1)
    clear hm1 hx
    go_wp2
    go_ret
    exact ⟨rfl, hm2.out⟩
  · rw [show ((runE d A t).2 == 0) = false by simpa using h1, Bool.false_and]
    have hne : (((runE d A t).2 : Int) == 0) = false := by simp; exact h1
    replace hr := Lib.hid hr
    generalize (runE d A t).2 = E at *
    generalize (runE d A t).1 = y at *
    replace h1 := Lib.hid h1
    go_enter Try.func22, Try.ntmps22
    go_wp2_with fail
    refine hr.out.mono ?_
    rintro e w1 ⟨rfl, hm1⟩
    replace hm2 := Lib.hid (hm2.out.trans hm1)
    clear hm1
    go_wp2
    go_ret
    exact ⟨rfl, hm2.out⟩

theorem from_any (v1 v2 v3 : Value) (a1 a2 a3 : Option Addr) (n1 n2 n3 c1 c2 c3 : Nat) (h1 : v1 = .slice a1 n1 c1) (h2 : v2 = .slice a2 n2 c2) (h3 : v3 = .slice a3 n3 c3) (w : World) : Calls Try.prog 16 #[.agg #[v1, v2, v3]] w (RetPost w (.agg #[v1, v2, v3])) := by
  subst h1 h2 h3
  go_enter Try.func16, Try.ntmps16
  go_wp2
  exact bodyPost_ret (v := .agg #[.slice a1 n1 c1, .slice a2 n2 c2, .slice a3 n3 c3]) (by simp [results, Try.results16, go_sem]) rfl ⟨rfl, ((Mut.refl (fun _ => False) w).alloc _).alloc _⟩
theorem to_any (v1 v2 v3 : Value) (a1 a2 a3 : Option Addr) (n1 n2 n3 c1 c2 c3 : Nat) (h1 : v1 = .slice a1 n1 c1) (h2 : v2 = .slice a2 n2 c2) (h3 : v3 = .slice a3 n3 c3) (w : World) : Calls Try.prog 29 #[.agg #[v1, v2, v3]] w (RetPost w (.agg #[v1, v2, v3])) := by
  subst h1 h2 h3
  go_enter Try.func29, Try.ntmps29
  go_wp2
  exact bodyPost_ret (v := .agg #[.slice a1 n1 c1, .slice a2 n2 c2, .slice a3 n3 c3]) (by simp [results, Try.results29, go_sem]) rfl ⟨rfl, ((Mut.refl (fun _ => False) w).alloc _).alloc _⟩
end Go.Proofs.Ytdakoccbmeojhaa
