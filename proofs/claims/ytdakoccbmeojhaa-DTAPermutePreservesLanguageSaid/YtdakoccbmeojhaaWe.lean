/- Contracts: the check of a tree against an alphabet, at, Step of the reference. Condition: an automaton, a tree in memory. -/
import Derived.Test.YtdakoccbmeojhaaWd
set_option linter.unusedSimpArgs false
set_option linter.unusedVariables false
set_option maxHeartbeats 400000
namespace Go.Proofs.Ytdakoccbmeojhaa
open Go Go.RowKit Go.PP

theorem small_any (d : Nat) (s : Int) (v : Value) (t : Tr) (w : World) (ht : TreeIn (fun _ => False) w d s v t) : Calls Try.prog 68 #[.agg #[.int .i64 s, v]] w (RetPost w (.int .i64 (if 4096 < sizeW d t then 2 else if 256 < deepW d t then 16 else 0))) := by
  have ht0 := Lib.hid ht
  obtain ⟨a, n, c, rfl⟩ := ht.shape
  clear ht
  have hm := (Mut.refl (fun _ => False) w).alloc (.cells #[.int .i64 s, .slice a n c] 39)
  have hB := Lib.hid (BoxT.mk' w s (.slice a n c) 39)
  have ht1 := Lib.hid (ht0.out.fix hm)
  replace hm := Lib.hid hm
  by_cases h1 : 4096 < sizeW d t
  · rw [if_pos h1]
    have hs := Lib.hid (size_any d s _ t _ ht1.out)
    generalize sizeW d t = x at *
    go_enter Try.func68, Try.ntmps68
    go_wp2_with fail
    refine hs.out.mono ?_
    rintro e w1 ⟨rfl, hm1⟩
    replace hm := Lib.hid (hm.out.trans hm1)
    clear hm1
    go_wp2
    go_ret
    exact ⟨rfl, hm.out⟩
  · rw [if_neg h1]
    have hs := Lib.hid (size_any d s _ t _ ht1.out)
    have hdp := Lib.hid (fun w1 (hm1 : Fix _ w1) => deep_any d s _ t w1 (ht1.out.fix hm1))
    generalize sizeW d t = x at *
    by_cases h2 : 256 < deepW d t
    all_goals
      first | rw [if_pos h2] | rw [if_neg h2]
      generalize deepW d t = y at *
      go_enter Try.func68, Try.ntmps68
      go_wp2_with fail
      refine hs.out.mono ?_
      rintro e w1 ⟨rfl, hm1⟩
      obtain ⟨k0, k1⟩ := hB.out.fix hm1
      have hd1 := Lib.hid (hdp.out _ hm1)
      replace hm := Lib.hid (hm.out.trans hm1)
      clear hm1
      go_wp2_with fail
      refine hd1.out.mono ?_
      rintro e w2 ⟨rfl, hm1⟩
      replace hm := Lib.hid (hm.out.trans hm1)
      clear hm1
      go_wp2
      go_ret
      exact ⟨rfl, hm.out⟩

theorem rightE_alpha {d : Nat} {r : List Int} {t : Tr} (h : alphaE r ≠ 0) : rightE d r t = alphaE r := by unfold rightE; rw [if_pos h]

set_option maxHeartbeats 2000000 in
theorem valid_any (d : Nat) (s : Int) (v vr : Value) (t : Tr) (r : List Int) (w : World) (ht : TreeIn (fun _ => False) w d s v t) (hr : Ints (fun _ => False) w vr r) :
    Calls Try.prog 35 #[vr, .agg #[.int .i64 s, v]] w (RetPost w (.int .i64 (rightE d r t : Nat))) := by
  have ht0 := Lib.hid ht
  have hr0 := Lib.hid hr
  obtain ⟨a, n, c, rfl⟩ := ht.shape
  obtain ⟨ra, rc, rfl, hrl⟩ := hr.open'
  clear ht hr
  have hm := (Mut.refl (fun _ => False) w).alloc (.cells #[.int .i64 s, .slice a n c] 39)
  have hB := Lib.hid (BoxT.mk' w s (.slice a n c) 39)
  have ht1 := Lib.hid (ht0.out.fix hm)
  have hr1 := Lib.hid (hr0.out.fix hm)
  replace hm := Lib.hid hm
  by_cases h1 : alphaE r = 0
  rotate_left
  · rw [rightE_alpha h1]
    have hne : ((alphaE r : Int) != 0) = true := by simp; exact h1
    have hc := Lib.hid (alpha_any _ r _ hr1.out)
    generalize alphaE r = E at *
    replace h1 := Lib.hid h1
    go_enter Try.func35, Try.ntmps35
    go_wp2_with fail
    refine hc.out.mono ?_
    rintro e w1 ⟨rfl, hm1⟩
    replace hm := Lib.hid (hm.out.trans hm1)
    clear hm1
    go_wp2
    go_ret
    exact ⟨rfl, hm.out⟩
  have hc := Lib.hid (alpha_good _ r _ hr1.out h1)
  have hE : rightE d r t = if 4096 < sizeW d t then 2 else if 256 < deepW d t then 16 else nodesE d r t := by unfold rightE; rw [if_neg (by omega)]
  replace h1 := Lib.hid h1
  rw [hE]
  clear hE
  have hsm := Lib.hid (fun w1 (hm1 : Fix _ w1) => small_any d s _ t w1 (ht1.out.fix hm1))
  have hnd := Lib.hid (fun w1 (hm1 : Fix _ w1) => nodes_any r _ d s _ t w1 (ht1.out.fix hm1) (hr1.out.fix hm1))
  by_cases h2 : 4096 < sizeW d t
  · rw [if_pos h2] at hsm ⊢
    replace h2 := Lib.hid h2
    go_enter Try.func35, Try.ntmps35
    go_wp2_with fail
    refine hc.out.mono ?_
    rintro e w1 ⟨rfl, hm1⟩
    obtain ⟨k0, k1⟩ := hB.out.fix hm1
    have hs1 := Lib.hid (hsm.out _ hm1)
    replace hm := Lib.hid (hm.out.trans hm1)
    clear hm1
    go_wp2_with fail
    refine hs1.out.mono ?_
    rintro e w2 ⟨rfl, hm1⟩
    replace hm := Lib.hid (hm.out.trans hm1)
    clear hm1
    go_wp2
    go_ret
    exact ⟨rfl, hm.out⟩
  rw [if_neg h2] at hsm ⊢
  replace h2 := Lib.hid h2
  by_cases h3 : 256 < deepW d t
  · rw [if_pos h3] at hsm ⊢
    replace h3 := Lib.hid h3
    go_enter Try.func35, Try.ntmps35
    go_wp2_with fail
    refine hc.out.mono ?_
    rintro e w1 ⟨rfl, hm1⟩
    obtain ⟨k0, k1⟩ := hB.out.fix hm1
    have hs1 := Lib.hid (hsm.out _ hm1)
    replace hm := Lib.hid (hm.out.trans hm1)
    clear hm1
    go_wp2_with fail
    refine hs1.out.mono ?_
    rintro e w2 ⟨rfl, hm1⟩
    replace hm := Lib.hid (hm.out.trans hm1)
    clear hm1
    go_wp2
    go_ret
    exact ⟨rfl, hm.out⟩
  rw [if_neg h3] at hsm ⊢
  replace h3 := Lib.hid h3
  generalize nodesE d r t = E at *
  go_enter Try.func35, Try.ntmps35
  go_wp2_with fail
  refine hc.out.mono ?_
  rintro e w1 ⟨rfl, hm1⟩
  obtain ⟨k0, k1⟩ := hB.out.fix hm1
  have hs1 := Lib.hid (hsm.out _ hm1)
  have hf1 := Lib.hid hm1
  replace hm := Lib.hid (hm.out.trans hm1)
  clear hm1
  go_wp2_with fail
  refine hs1.out.mono ?_
  rintro e w2 ⟨rfl, hm1⟩
  obtain ⟨k0, k1⟩ := (BoxT.mk k0 k1).fix hm1
  have hn1 := Lib.hid (hnd.out _ (hf1.out.trans hm1))
  replace hm := Lib.hid (hm.out.trans hm1)
  clear hm1
  go_wp2_with fail
  refine hn1.out.mono ?_
  rintro e w3 ⟨rfl, hm1⟩
  replace hm := Lib.hid (hm.out.trans hm1)
  clear hm1
  go_wp2
  go_ret
  exact ⟨rfl, hm.out⟩

set_option maxHeartbeats 2000000 in
theorem right_any (d : Nat) (s : Int) (v vr : Value) (t : Tr) (r : List Int) (w : World) (ht : TreeIn (fun _ => False) w d s v t) (hr : Ints (fun _ => False) w vr r) :
    Calls Try.prog 43 #[vr, .agg #[.int .i64 s, v]] w (RetPost w (.int .i64 (rightE d r t : Nat))) := by
  have ht0 := Lib.hid ht
  have hr0 := Lib.hid hr
  obtain ⟨a, n, c, rfl⟩ := ht.shape
  obtain ⟨ra, rc, rfl, hrl⟩ := hr.open'
  clear ht hr
  have hm := (Mut.refl (fun _ => False) w).alloc (.cells #[.int .i64 s, .slice a n c] 29)
  have hB := Lib.hid (BoxT.mk' w s (.slice a n c) 29)
  have ht1 := Lib.hid (ht0.out.fix hm)
  have hr1 := Lib.hid (hr0.out.fix hm)
  replace hm := Lib.hid hm
  by_cases h1 : alphaE r = 0
  rotate_left
  · rw [rightE_alpha h1]
    have hne : ((alphaE r : Int) != 0) = true := by simp; exact h1
    have hc := Lib.hid (ralpha_any _ r _ hr1.out)
    generalize alphaE r = E at *
    replace h1 := Lib.hid h1
    go_enter Try.func43, Try.ntmps43
    go_wp2_with fail
    refine hc.out.mono ?_
    rintro e w1 ⟨rfl, rfl⟩
    go_wp2
    go_ret
    exact ⟨rfl, hm.out⟩
  have hc := Lib.hid (ralpha_good _ r _ hr1.out h1)
  have hE : rightE d r t = if 4096 < sizeW d t then 2 else if 256 < deepW d t then 16 else nodesE d r t := by unfold rightE; rw [if_neg (by omega)]
  replace h1 := Lib.hid h1
  rw [hE]
  clear hE
  have hsz := Lib.hid (rsize_any d s _ t _ ht1.out)
  have hdp := Lib.hid (fun w1 (hm1 : Fix _ w1) => rdeep_any d s _ t w1 (ht1.out.fix hm1))
  have hnd := Lib.hid (fun w1 (hm1 : Fix _ w1) => rnodes_any r _ d s _ t w1 (ht1.out.fix hm1) (hr1.out.fix hm1))
  generalize sizeW d t = x at *
  by_cases h2 : 4096 < x
  · rw [if_pos h2]
    go_enter Try.func43, Try.ntmps43
    go_wp2_with fail
    refine hc.out.mono ?_
    rintro e w1 ⟨rfl, rfl⟩
    go_wp2_with fail
    refine hsz.out.mono ?_
    rintro e w2 ⟨rfl, hm1⟩
    replace hm := Lib.hid (hm.out.trans hm1)
    clear hm1
    go_wp2
    go_ret
    exact ⟨rfl, hm.out⟩
  rw [if_neg h2]
  generalize deepW d t = y at *
  by_cases h3 : 256 < y
  · rw [if_pos h3]
    go_enter Try.func43, Try.ntmps43
    go_wp2_with fail
    refine hc.out.mono ?_
    rintro e w1 ⟨rfl, rfl⟩
    go_wp2_with fail
    refine hsz.out.mono ?_
    rintro e w2 ⟨rfl, hm1⟩
    obtain ⟨k0, k1⟩ := hB.out.fix hm1
    have hd1 := Lib.hid (hdp.out _ hm1)
    replace hm := Lib.hid (hm.out.trans hm1)
    clear hm1
    go_wp2_with fail
    refine hd1.out.mono ?_
    rintro e w3 ⟨rfl, hm1⟩
    replace hm := Lib.hid (hm.out.trans hm1)
    clear hm1
    go_wp2
    go_ret
    exact ⟨rfl, hm.out⟩
  rw [if_neg h3]
  generalize nodesE d r t = E at *
  go_enter Try.func43, Try.ntmps43
  go_wp2_with fail
  refine hc.out.mono ?_
  rintro e w1 ⟨rfl, rfl⟩
  go_wp2_with fail
  refine hsz.out.mono ?_
  rintro e w2 ⟨rfl, hm1⟩
  obtain ⟨k0, k1⟩ := hB.out.fix hm1
  have hd1 := Lib.hid (hdp.out _ hm1)
  have hf1 := Lib.hid hm1
  replace hm := Lib.hid (hm.out.trans hm1)
  clear hm1
  go_wp2_with fail
  refine hd1.out.mono ?_
  rintro e w3 ⟨rfl, hm1⟩
  obtain ⟨k0, k1⟩ := (BoxT.mk k0 k1).fix hm1
  have hn1 := Lib.hid (hnd.out _ (hf1.out.trans hm1))
  replace hm := Lib.hid (hm.out.trans hm1)
  clear hm1
  go_wp2_with fail
  refine hn1.out.mono ?_
  rintro e w4 ⟨rfl, hm1⟩
  replace hm := Lib.hid (hm.out.trans hm1)
  clear hm1
  go_wp2
  go_ret
  exact ⟨rfl, hm.out⟩

/-- 'tree': at most 200 nodes and depth 30. -/
def treeB (d : Nat) (t : Tr) : Bool := decide (deepW d t ≤ 30) && decide (sizeW d t ≤ 200)
theorem tree_any (d : Nat) (s : Int) (v : Value) (t : Tr) (w : World) (ht : TreeIn (fun _ => False) w d s v t) : Calls Try.prog 14 #[.agg #[.int .i64 s, v]] w (RetPost w (.bool (treeB d t))) := by
  have ht0 := Lib.hid ht
  obtain ⟨a, n, c, rfl⟩ := ht.shape
  clear ht
  have hm := (Mut.refl (fun _ => False) w).alloc (.cells #[.int .i64 s, .slice a n c] 29)
  have hB := Lib.hid (BoxT.mk' w s (.slice a n c) 29)
  have ht1 := Lib.hid (ht0.out.fix hm)
  replace hm := Lib.hid hm
  have hdp := Lib.hid (rdeep_any d s _ t _ ht1.out)
  have hsz := Lib.hid (fun w1 (hm1 : Fix _ w1) => rsize_any d s _ t w1 (ht1.out.fix hm1))
  unfold treeB
  generalize deepW d t = y at *
  generalize sizeW d t = x at *
  by_cases h3 : y ≤ 30
  · have hd : decide (y ≤ 30) = true := by simpa using h3
    rw [hd, Bool.true_and]
    go_enter Try.func14, Try.ntmps14
    go_wp2_with fail
    refine hdp.out.mono ?_
    rintro e w1 ⟨rfl, hm1⟩
    obtain ⟨k0, k1⟩ := hB.out.fix hm1
    have hs1 := Lib.hid (hsz.out _ hm1)
    replace hm := Lib.hid (hm.out.trans hm1)
    clear hm1
    go_wp2_with fail
    refine hs1.out.mono ?_
    rintro e w2 ⟨rfl, hm1⟩
    replace hm := Lib.hid (hm.out.trans hm1)
    clear hm1
    go_wp2
    go_ret
    exact ⟨rfl, hm.out⟩
  · have hd : decide (y ≤ 30) = false := by simpa using h3
    rw [hd, Bool.false_and]
    go_enter Try.func14, Try.ntmps14
    go_wp2_with fail
    refine hdp.out.mono ?_
    rintro e w1 ⟨rfl, hm1⟩
    replace hm := Lib.hid (hm.out.trans hm1)
    clear hm1
    go_wp2
    go_ret
    exact ⟨rfl, hm.out⟩
end Go.Proofs.Ytdakoccbmeojhaa
