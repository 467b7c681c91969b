/- DTAEqualClone returns true. Condition: two automata in memory. -/
import Derived.Test.YtdakoccbmeojhaaWq
set_option linter.unusedSimpArgs false
set_option linter.unusedVariables false
set_option maxHeartbeats 400000
namespace Go.Proofs.Ytdakoccbmeojhaa
open Go Go.RowKit Go.PP

theorem few_small {A : Au} (h : fewB A = true) : A.ranks.length ≤ 4096 ∧ A.final.length ≤ 4096 ∧ A.to.length ≤ 4096 ∧ ∀ l ∈ A.to, l.length ≤ 4096 := by
  unfold fewB at h
  rw [decide_eq_true_eq] at h
  obtain ⟨h1, h2, h3, h4⟩ := h
  exact ⟨by omega, by omega, by omega, fun l hl => by have := h4 l hl; omega⟩

theorem _root_.Go.PP.AuIn.mut {M S : Nat → Prop} {w w' : World} {v1 v2 v3 : Value} {A : Au} (h : AuIn M w v1 v2 v3 A) (m : Mut S w w') (hs : ∀ b, b < w.heap.size → S b → M b) : AuIn M w' v1 v2 v3 A := ⟨h.r.mut m hs, SliceIn.mut h.f m hs, h.t.mut m hs⟩
theorem BoxA.mut {S : Nat → Prop} {b : Nat} {v1 v2 v3 : Value} {w w' : World} (h : BoxA b v1 v2 v3 w) (m : Mut S w w') (hs : ¬ S b) : BoxA b v1 v2 v3 w' := ⟨m.cell h.c0 hs, m.cell h.c1 hs, m.cell h.c2 hs⟩
theorem BoxA.lt {b : Nat} {v1 v2 v3 : Value} {w : World} (h : BoxA b v1 v2 v3 w) : b < w.heap.size := World.block_lt_of_cell? _ _ h.c0
theorem Dst.row2 {wd : World} {B bd : Nat} {d1 d2 : Value} {g c n1 n2 : Nat} {vs : List Value} {ls : List Nat} {w : World} (h : Dst wd B bd d1 d2 (.slice (some ⟨g, 0, none⟩) vs.length c) n1 n2 vs ls w) {i n : Nat} {u : Value} (hv : vs[i]? = some u) (hl : ls[i]? = some n) :
    w.cell? ⟨g, i, none⟩ = some u ∧ IntRow B w u n := by
  obtain ⟨g', ra, rc, n', h1, h2, h3, h4, h5⟩ := h.row (List.getElem?_eq_some_iff.1 hv).1
  simp only [Option.some.injEq, Addr.mk.injEq, and_true] at h1
  rw [hv, Option.some.injEq] at h3
  rw [hl, Option.some.injEq] at h2
  subst h1 h2 h3
  exact ⟨h4, h5⟩

set_option maxRecDepth 8000 in
set_option maxHeartbeats 4000000 in
theorem eqclone_many1 (A B : Au) (v1 v2 v3 u1 u2 u3 : Value) (w : World) (hA : AuIn (fun _ => False) w v1 v2 v3 A) (hB : AuIn (fun _ => False) w u1 u2 u3 B) (hf : fewB A = false) : Calls Try.prog 5 #[.agg #[v1, v2, v3], .agg #[u1, u2, u3]] w (TruePost w) := by
  have hA0 := Lib.hid hA
  have hB0 := Lib.hid hB
  obtain ⟨a1, c1, a2, c2, a3, c3, rfl, rfl, rfl, l1, l2, l3⟩ := hA.open
  obtain ⟨b1, d1, b2, d2, b3, d3, rfl, rfl, rfl, m1, m2, m3⟩ := hB.open
  clear hA hB
  have hX := BoxA.mk' w (.slice a1 A.ranks.length c1) (.slice a2 A.final.length c2) (.slice a3 A.to.length c3) 26
  have hm1 := (Mut.refl (fun _ => False) w).alloc (.cells #[.slice a1 A.ranks.length c1, .slice a2 A.final.length c2, .slice a3 A.to.length c3] 26)
  have hY := BoxA.mk' (w.alloc (.cells #[.slice a1 A.ranks.length c1, .slice a2 A.final.length c2, .slice a3 A.to.length c3] 26)) (.slice b1 B.ranks.length d1) (.slice b2 B.final.length d2) (.slice b3 B.to.length d3) 26
  have hX2 := hX.fix ((Mut.refl (fun _ => False) _).alloc (.cells #[.slice b1 B.ranks.length d1, .slice b2 B.final.length d2, .slice b3 B.to.length d3] 26))
  have hm2 := hm1.alloc (.cells #[.slice b1 B.ranks.length d1, .slice b2 B.final.length d2, .slice b3 B.to.length d3] 26)
  rw [show (w.alloc (.cells #[.slice a1 A.ranks.length c1, .slice a2 A.final.length c2, .slice a3 A.to.length c3] 26)).heap.size = w.heap.size + 1 from by simp] at hY
  have hfA := few_any _ _ _ _ A (hA0.out.fix hm2)
  have hfB := Lib.hid (fun w1 (hm : Fix _ w1) => few_any w1 _ _ _ B ((hB0.out.fix hm2).fix hm))
  rw [hf] at hfA
  replace hfA := Lib.hid hfA
  replace hm2 := Lib.hid hm2
  obtain ⟨k0, k1, k2⟩ := hX2
  clear hX hm1 hY
  go_enter Try.func5, Try.ntmps5
  go_wp2_with fail
  refine (hfA.out).mono ?_
  rintro e w1 ⟨rfl, hm1⟩
  replace hm2 := Lib.hid (hm2.out.trans hm1)
  clear hm1
  go_wp2_with fail
  refine (known_any _).mono ?_
  rintro e w2 ⟨rfl, hm1⟩
  replace hm2 := Lib.hid (hm2.out.trans hm1)
  clear hm1
  go_wp2
  go_ret
  exact ⟨rfl, hm2.out⟩

set_option maxRecDepth 8000 in
set_option maxHeartbeats 4000000 in
theorem eqclone_many2 (A B : Au) (v1 v2 v3 u1 u2 u3 : Value) (w : World) (hA : AuIn (fun _ => False) w v1 v2 v3 A) (hB : AuIn (fun _ => False) w u1 u2 u3 B) (hf : fewB A = true) (hg : fewB B = false) : Calls Try.prog 5 #[.agg #[v1, v2, v3], .agg #[u1, u2, u3]] w (TruePost w) := by
  have hA0 := Lib.hid hA
  have hB0 := Lib.hid hB
  obtain ⟨a1, c1, a2, c2, a3, c3, rfl, rfl, rfl, l1, l2, l3⟩ := hA.open
  obtain ⟨b1, d1, b2, d2, b3, d3, rfl, rfl, rfl, m1, m2, m3⟩ := hB.open
  clear hA hB
  have hX := BoxA.mk' w (.slice a1 A.ranks.length c1) (.slice a2 A.final.length c2) (.slice a3 A.to.length c3) 26
  have hm1 := (Mut.refl (fun _ => False) w).alloc (.cells #[.slice a1 A.ranks.length c1, .slice a2 A.final.length c2, .slice a3 A.to.length c3] 26)
  have hY := BoxA.mk' (w.alloc (.cells #[.slice a1 A.ranks.length c1, .slice a2 A.final.length c2, .slice a3 A.to.length c3] 26)) (.slice b1 B.ranks.length d1) (.slice b2 B.final.length d2) (.slice b3 B.to.length d3) 26
  have hX2 := hX.fix ((Mut.refl (fun _ => False) _).alloc (.cells #[.slice b1 B.ranks.length d1, .slice b2 B.final.length d2, .slice b3 B.to.length d3] 26))
  have hm2 := hm1.alloc (.cells #[.slice b1 B.ranks.length d1, .slice b2 B.final.length d2, .slice b3 B.to.length d3] 26)
  rw [show (w.alloc (.cells #[.slice a1 A.ranks.length c1, .slice a2 A.final.length c2, .slice a3 A.to.length c3] 26)).heap.size = w.heap.size + 1 from by simp] at hY
  have hfA := few_any _ _ _ _ A (hA0.out.fix hm2)
  have hfB := Lib.hid (fun w1 (hm : Fix _ w1) => few_any w1 _ _ _ B ((hB0.out.fix hm2).fix hm))
  rw [hf] at hfA
  rw [hg] at hfB
  replace hfA := Lib.hid hfA
  replace hm2 := Lib.hid hm2
  obtain ⟨k0, k1, k2⟩ := hX2
  clear hX hm1 hf hg
  go_enter Try.func5, Try.ntmps5
  go_wp2_with fail
  refine (hfA.out).mono ?_
  rintro e w1 ⟨rfl, hm1⟩
  replace hfB := Lib.hid (hfB.out _ hm1)
  obtain ⟨q0, q1, q2⟩ := hY.fix hm1
  replace hm2 := Lib.hid (hm2.out.trans hm1)
  clear hm1 k0 k1 k2
  go_wp2_with fail
  refine (hfB.out).mono ?_
  rintro e w2 ⟨rfl, hm1⟩
  replace hm2 := Lib.hid (hm2.out.trans hm1)
  clear hm1 q0 q1 q2
  go_wp2_with fail
  refine (known_any _).mono ?_
  rintro e w3 ⟨rfl, hm1⟩
  replace hm2 := Lib.hid (hm2.out.trans hm1)
  clear hm1
  go_wp2
  go_ret
  exact ⟨rfl, hm2.out⟩

set_option maxRecDepth 8000 in
set_option maxHeartbeats 16000000 in
theorem eqclone_few (A B : Au) (v1 v2 v3 u1 u2 u3 : Value) (w : World) (hA : AuIn (fun _ => False) w v1 v2 v3 A) (hB : AuIn (fun _ => False) w u1 u2 u3 B) (hf : fewB A = true) (hg : fewB B = true) : Calls Try.prog 5 #[.agg #[v1, v2, v3], .agg #[u1, u2, u3]] w (TruePost w) := by
  have hA0 := Lib.hid hA
  have hB0 := Lib.hid hB
  obtain ⟨a1, c1, a2, c2, a3, c3, rfl, rfl, rfl, l1, l2, l3⟩ := hA.open
  obtain ⟨b1, d1, b2, d2, b3, d3, rfl, rfl, rfl, m1, m2, m3⟩ := hB.open
  clear hA hB
  have hX := BoxA.mk' w (.slice a1 A.ranks.length c1) (.slice a2 A.final.length c2) (.slice a3 A.to.length c3) 26
  have hm1 := (Mut.refl (fun _ => False) w).alloc (.cells #[.slice a1 A.ranks.length c1, .slice a2 A.final.length c2, .slice a3 A.to.length c3] 26)
  have hY := BoxA.mk' (w.alloc (.cells #[.slice a1 A.ranks.length c1, .slice a2 A.final.length c2, .slice a3 A.to.length c3] 26)) (.slice b1 B.ranks.length d1) (.slice b2 B.final.length d2) (.slice b3 B.to.length d3) 26
  have hX2 := hX.fix ((Mut.refl (fun _ => False) _).alloc (.cells #[.slice b1 B.ranks.length d1, .slice b2 B.final.length d2, .slice b3 B.to.length d3] 26))
  have hm2 := hm1.alloc (.cells #[.slice b1 B.ranks.length d1, .slice b2 B.final.length d2, .slice b3 B.to.length d3] 26)
  rw [show (w.alloc (.cells #[.slice a1 A.ranks.length c1, .slice a2 A.final.length c2, .slice a3 A.to.length c3] 26)).heap.size = w.heap.size + 1 from by simp] at hY
  have hfA := few_any _ _ _ _ A (hA0.out.fix hm2)
  have hfB := Lib.hid (fun w1 (hm : Fix _ w1) => few_any w1 _ _ _ B ((hB0.out.fix hm2).fix hm))
  have hsm := few_small hf
  rw [hf] at hfA
  rw [hg] at hfB
  replace hfA := Lib.hid hfA
  replace hsm := Lib.hid hsm
  replace hm2 := Lib.hid hm2
  replace hX2 := Lib.hid hX2
  replace hY := Lib.hid hY
  clear hX hm1 hf hg
  obtain ⟨k0, k1, k2⟩ := hX2.out
  go_enter Try.func5, Try.ntmps5
  go_wp2_with fail
  refine (hfA.out).mono ?_
  rintro e w1 ⟨rfl, hm1⟩
  replace hfB := Lib.hid (hfB.out _ hm1)
  replace hX2 := Lib.hid (hX2.out.fix hm1)
  replace hY := Lib.hid (hY.out.fix hm1)
  replace hm2 := Lib.hid (hm2.out.trans hm1)
  clear hm1 k0 k1 k2
  obtain ⟨q0, q1, q2⟩ := hY.out
  go_wp2_with fail
  refine (hfB.out).mono ?_
  rintro e wb ⟨rfl, hm1⟩
  replace hX2 := Lib.hid (hX2.out.fix hm1)
  replace hY := Lib.hid (hY.out.fix hm1)
  replace hm2 := Lib.hid (hm2.out.trans hm1)
  clear hm1 hfA hfB q0 q1 q2
  obtain ⟨k0, k1, k2⟩ := hX2.out
  obtain ⟨q0, q1, q2⟩ := hY.out
  go_wp2
  refine wp_region_inv3 (fun a0 L a' w' => ∃ u1 u2 u3 u4 u5 u6, M2 wb [22, 23, 24, 25, 5, 6] (.agg #[.slice a1 A.ranks.length c1, .slice a2 A.final.length c2, .slice a3 A.to.length c3]) (.agg #[.slice b1 B.ranks.length d1, .slice b2 B.final.length d2, .slice b3 B.to.length d3]) (GA (.agg #[.slice a1 A.ranks.length c1, .slice a2 A.final.length c2, .slice a3 A.to.length c3])) (GA (.agg #[.slice b1 B.ranks.length d1, .slice b2 B.final.length d2, .slice b3 B.to.length d3])) 3 3 a0 L a' w' u1 u2 u3 u4 u5 u6) (by kernel_rfl) ?_ ?_ ?_
  · rintro L a' w' i ⟨u1, u2, u3, u4, u5, u6, hM⟩ dc hi
    have hdown := fun j o (ho : _ = some o) hk => not_listed dc hi (j := j) (o := o) ho hk
    have hready := fun o (ho : _ = some o) k hk => ready_after hi (o := o) ho k hk
    obtain ⟨hLi, o, ho, -⟩ := mem_ready.1 hi
    have hi8 : i < 8 := (Array.getElem?_eq_some_iff.1 ho).1
    have hact := hM.act
    subst hact
    simp only [putAll]
    clear ho
    rcases (show i = 0 ∨ i = 1 ∨ i = 2 ∨ i = 3 ∨ i = 4 ∨ i = 5 ∨ i = 6 ∨ i = 7 by omega) with rfl | rfl | rfl | rfl | rfl | rfl | rfl | rfl
    · have q1 := hdown 1 _ rfl (by kernel_rfl)
      have e0 := hM.fix.cell k0 (by simp)
      have e1 := hM.fix.cell k1 (by simp)
      have e2 := hM.fix.cell k2 (by simp)
      have H := Lib.hid (fun a' (ha : a' = _) => hM.s0 (GA.good _) (GA.good _) (a' := a') ha q1)
      clear hM hdown hready dc hi q1
      refine wpOp_of_list rfl ?_
      go_wp2
      exact ⟨_, _, _, _, _, _, H.out _ rfl⟩
    · have q0 := hready _ rfl 0 (by kernel_rfl)
      have q6 := hdown 6 _ rfl (by kernel_rfl)
      obtain rfl := hM.h0 q0
      have H := Lib.hid (fun w2 (m : Fix w' w2) a' (ha : a' = _) => hM.s1 (GA.good _) (GA.good _) m (v := (.agg #[.slice a1 A.ranks.length c1, .slice a2 A.final.length c2, .slice a3 A.to.length c3])) rfl (a' := a') ha q6)
      clear hM hdown hready dc hi q0 q6
      refine wpOp_of_list rfl ?_
      go_wp2_with fail
      refine (from_any _ _ _ _ _ _ _ _ _ _ _ _ rfl rfl rfl _).mono ?_
      rintro e w2 ⟨rfl, hm⟩
      replace H := Lib.hid (H.out w2 hm)
      clear hm
      go_wp2
      exact ⟨_, _, _, _, _, _, H.out _ rfl⟩
    · have e0 := hM.fix.cell q0 (by simp)
      have e1 := hM.fix.cell q1 (by simp)
      have e2 := hM.fix.cell q2 (by simp)
      have H := Lib.hid (fun a' (ha : a' = _) => hM.s2 (GA.good _) (GA.good _) (a' := a') ha)
      clear hM hdown hready dc hi
      refine wpOp_of_list rfl ?_
      go_wp2
      exact ⟨_, _, _, _, _, _, H.out _ rfl⟩
    · have q2 := hready _ rfl 2 (by kernel_rfl)
      have q7 := hdown 7 _ rfl (by kernel_rfl)
      obtain rfl := hM.h2 q2
      have H := Lib.hid (fun w2 (m : Fix w' w2) a' (ha : a' = _) => hM.s3 (GA.good _) (GA.good _) m (v := (.agg #[.slice b1 B.ranks.length d1, .slice b2 B.final.length d2, .slice b3 B.to.length d3])) rfl (a' := a') ha q7)
      clear hM hdown hready dc hi q2 q7
      refine wpOp_of_list rfl ?_
      go_wp2_with fail
      refine (from_any _ _ _ _ _ _ _ _ _ _ _ _ rfl rfl rfl _).mono ?_
      rintro e w2 ⟨rfl, hm⟩
      replace H := Lib.hid (H.out w2 hm)
      clear hm
      go_wp2
      exact ⟨_, _, _, _, _, _, H.out _ rfl⟩
    · have q6 := hdown 6 _ rfl (by kernel_rfl)
      have H := Lib.hid (fun cs hc a' (ha : a' = _) => hM.s4 (GA.good _) (GA.good _) cs 35 hc (a' := a') ha q6 (getD_not_both hLi))
      clear hM hdown hready dc hi q6
      refine wpOp_of_list rfl ?_
      go_wp2
      exact ⟨_, _, _, _, _, _, H.out _ rfl _ rfl⟩
    · have q6 := hdown 6 _ rfl (by kernel_rfl)
      have H := Lib.hid (fun cs hc a' (ha : a' = _) => hM.s5 (GA.good _) (GA.good _) cs 35 hc (a' := a') ha q6 (getD_not_both hLi))
      clear hM hdown hready dc hi q6
      refine wpOp_of_list rfl ?_
      go_wp2
      exact ⟨_, _, _, _, _, _, H.out _ rfl _ rfl⟩
    · have q1 := hready _ rfl 1 (by kernel_rfl)
      have q4 := hready _ rfl 4 (by kernel_rfl)
      have q7 := hdown 7 _ rfl (by kernel_rfl)
      obtain rfl := hM.h1 q1
      have hv5 := hM.h4 q4
      obtain ⟨bx, cs, T, rfl, hbx, -, -⟩ := id hv5
      obtain ⟨x0, e0, f0⟩ := hv5.cell (i := 0) (by omega)
      obtain ⟨x1, e1, f1⟩ := hv5.cell (i := 1) (by omega)
      obtain ⟨x2, e2, f2⟩ := hv5.cell (i := 2) (by omega)
      have H := Lib.hid (fun w2 m v5 v6 hh a' (ha : a' = _) => hM.s6 (w' := w2) (GA.good _) (GA.good _) q4 m v5 v6 hh q7 (a' := a') ha)
      have hst := Lib.hid (store3 w' bx 3 wb (.slice a1 A.ranks.length c1) (.slice a2 A.final.length c2) (.slice a3 A.to.length c3) hv5 (by omega))
      have hv6 := Lib.hid hM.h5
      clear hM hdown hready dc hi q1 q4 q7 hv5
      refine wpOp_of_list rfl ?_
      go_wp2
      exact ⟨_, _, _, _, _, _, H.out _ hst.out.1 hst.out.2.1 (fun q => ((hv6.out q).set _ _).set _ _ |>.set _ _) hst.out.2.2 _ rfl⟩
    · have q3 := hready _ rfl 3 (by kernel_rfl)
      have q4 := hready _ rfl 4 (by kernel_rfl)
      have q5 := hready _ rfl 5 (by kernel_rfl)
      have q6 := hready _ rfl 6 (by kernel_rfl)
      obtain rfl := hM.h3 q3
      have hv6 := hM.h5 q5
      obtain ⟨by', cs, T, rfl, hby, -, -⟩ := id hv6
      obtain ⟨x0, e0, f0⟩ := hv6.cell (i := 0) (by omega)
      obtain ⟨x1, e1, f1⟩ := hv6.cell (i := 1) (by omega)
      obtain ⟨x2, e2, f2⟩ := hv6.cell (i := 2) (by omega)
      have H := Lib.hid (fun w2 m v5 v6 hh a' (ha : a' = _) => hM.s7 (w' := w2) (GA.good _) (GA.good _) q4 q5 q6 m v5 v6 hh (a' := a') ha)
      have hst := Lib.hid (store3 w' by' 3 wb (.slice b1 B.ranks.length d1) (.slice b2 B.final.length d2) (.slice b3 B.to.length d3) hv6 (by omega))
      have hv5 := Lib.hid (hM.h4 q4)
      clear hM hdown hready dc hi q3 q4 q5 q6 hv6
      refine wpOp_of_list rfl ?_
      go_wp2
      exact ⟨_, _, _, _, _, _, H.out _ hst.out.1 (((hv5.out.set _ _).set _ _).set _ _) hst.out.2.1 hst.out.2.2 _ rfl⟩
  · rintro L a' w' ⟨u1, u2, u3, u4, u5, u6, hM⟩ hr
    have hall := all_listed hr (by kernel_rfl) hM.size
    obtain rfl := hM.h1 (hall 1 (by decide))
    obtain rfl := hM.h3 (hall 3 (by decide))
    obtain ⟨bx, cs, rfl, hcs, hx⟩ := hM.h6 (hall 6 (by decide))
    obtain ⟨by', cs', rfl, hcs', hy⟩ := hM.h7 (hall 7 (by decide))
    simp only [Value.agg.injEq] at hcs hcs'
    subst hcs hcs'
    have hBx := Lib.hid (show BoxA bx (.slice a1 A.ranks.length c1) (.slice a2 A.final.length c2) (.slice a3 A.to.length c3) w' from ⟨hx 0 _ rfl, hx 1 _ rfl, hx 2 _ rfl⟩)
    have hBy := Lib.hid (show BoxA by' (.slice b1 B.ranks.length d1) (.slice b2 B.final.length d2) (.slice b3 B.to.length d3) w' from ⟨hy 0 _ rfl, hy 1 _ rfl, hy 2 _ rfl⟩)
    have hfx := Lib.hid hM.fix
    have hact := hM.act
    subst hact
    clear hM hx hy hall hr
    simp only [putAll]
    refine NoPanic.normal ?_
    have hA1 := Lib.hid (hA0.out.fix (hm2.out.trans hfx.out))
    have hB1 := Lib.hid (hB0.out.fix (hm2.out.trans hfx.out))
    replace hX2 := Lib.hid (hX2.out.fix hfx.out)
    replace hY := Lib.hid (hY.out.fix hfx.out)
    replace hm2 := Lib.hid (hm2.out.trans hfx.out)
    clear hfx k0 k1 k2 q0 q1 q2
    obtain ⟨x0, x1, x2⟩ := hBx.out
    obtain ⟨y0, y1, y2⟩ := hBy.out
    obtain ⟨k0, k1, k2⟩ := hX2.out
    obtain ⟨q0, q1, q2⟩ := hY.out
    have heq := Lib.hid (fun w4 (hm4 : Fix w' w4) => equal_any A B _ _ _ _ _ _ w4 (hA1.out.fix hm4) (hB1.out.fix hm4))
    have hsa := Lib.hid (fun w4 (hm4 : Fix w' w4) => same_any A B _ _ _ _ _ _ w4 (hA1.out.fix hm4) (hB1.out.fix hm4))
    have hexx := Lib.hid (fun w4 (hm4 : Fix w' w4) => equal_any A A _ _ _ _ _ _ w4 (hA1.out.fix hm4) (hA1.out.fix hm4))
    rw [eqAu_self] at hexx
    generalize eqAu A B = q at heq hsa
    have hbb : (q != q) = false := by cases q <;> rfl
    go_wp2
    simp only [Act.put, List.setIfInBounds_toArray, List.set_cons_succ, List.set_cons_zero]
    have hS := Lib.hid (show Fix w' w'.drew from (Mut.refl _ _).drew)
    have hne' := Cls.ne hS.out
    refine wp_plan (Fix w') [0, 1, 2, 3, 4, 5, 6, 7, 8, 9] [([0, 1, 3, 4], some 2), ([], some 5), ([6, 7, 8, 9], none)] [10, 11, 12] (by kernel_rfl) (by kernel_rfl) ?_
    refine ⟨Of.mk hS.out, ?_⟩
    simp only [wpPlan, pickOps_cons, pickOps_nil, List.getElem?_cons_zero, List.getElem?_cons_succ, pickOp_some]
    have s0 := fun x : Cls (Fix w') => x.ok.cell k0 (by simp)
    have s1 := fun x : Cls (Fix w') => x.ok.cell k1 (by simp)
    have s2 := fun x : Cls (Fix w') => x.ok.cell k2 (by simp)
    have s3 := fun x : Cls (Fix w') => x.ok.cell x0 (by simp)
    have s4 := fun x : Cls (Fix w') => x.ok.cell x1 (by simp)
    have s5 := fun x : Cls (Fix w') => x.ok.cell x2 (by simp)
    have s6 := fun x : Cls (Fix w') => x.ok.cell y0 (by simp)
    have s7 := fun x : Cls (Fix w') => x.ok.cell y1 (by simp)
    have s8 := fun x : Cls (Fix w') => x.ok.cell y2 (by simp)
    have s9 := fun x : Cls (Fix w') => x.ok.cell q0 (by simp)
    have s10 := fun x : Cls (Fix w') => x.ok.cell q1 (by simp)
    have s11 := fun x : Cls (Fix w') => x.ok.cell q2 (by simp)
    repeat (go_big_quiet_step (fail))
    refine wpQuiet_nil ?_
    go_wp2_with fail
    refine (heq.out _ hS.out).mono ?_
    rintro e w4 ⟨rfl, hm4⟩
    have hS4 := Lib.hid (hS.out.trans hm4)
    clear hm4
    go_wp2
    refine ⟨fun _ => Of.mk hS4.out, Of.mk hS4.out, wpQuiet_nil ?_⟩
    go_wp2_with fail
    refine (hsa.out _ hS4.out).mono ?_
    rintro e w5 ⟨rfl, hm4⟩
    have hS5 := Lib.hid (hS4.out.trans hm4)
    clear hm4
    go_wp2
    refine ⟨fun _ => Of.mk hS5.out, Of.mk hS5.out, ?_⟩
    repeat (go_big_quiet_step (fail))
    refine wpQuiet_nil ?_
    go_wp2_with fail
    refine (hexx.out _ hS5.out).mono ?_
    rintro e w6 ⟨rfl, hm4⟩
    have hm1 := hS5.out.trans hm4
    clear hm4 s0 s1 s2 s3 s4 s5 s6 s7 s8 s9 s10 s11
    replace hA1 := Lib.hid (hA1.out.fix hm1)
    replace hBx := Lib.hid (hBx.out.fix hm1)
    replace hm2 := Lib.hid (hm2.out.trans hm1)
    clear hm1 hS hS4 hS5 heq hsa hexx x0 x1 x2 y0 y1 y2 k0 k1 k2 q0 q1 q2 hX2 hY hB1 hBy hA0 hB0 hbb hne'
    go_wp2
    refine NoPanic.normal ?_
    obtain ⟨x0, x1, x2⟩ := hBx.out
    go_wp2_with fail
    refine (clone_any A _ _ _ _ hA1.out hsm.out.1 hsm.out.2.1 hsm.out.2.2.1 hsm.out.2.2.2).mono ?_
    rintro e w7 ⟨v1', v2', v3', rfl, hOC, hm1⟩
    have hC1 := hOC.au (M := fun _ => False) (fun _ _ => id)
    clear hOC x0 x1 x2
    replace hA1 := Lib.hid (hA1.out.fix hm1)
    replace hBx := Lib.hid (hBx.out.fix hm1)
    replace hm2 := Lib.hid (hm2.out.trans hm1)
    clear hm1
    obtain ⟨p1, r1, p2, r2, p3, r3, rfl, rfl, rfl, -, -, -⟩ := hC1.open
    have hm1 := (Mut.refl (fun _ => False) w7).alloc (.cells #[.slice p1 A.ranks.length r1, .slice p2 A.final.length r2, .slice p3 A.to.length r3] 35)
    replace hC1 := Lib.hid (hC1.fix hm1)
    have hBc := Lib.hid (BoxA.mk' w7 (.slice p1 A.ranks.length r1) (.slice p2 A.final.length r2) (.slice p3 A.to.length r3) 35)
    replace hA1 := Lib.hid (hA1.out.fix hm1)
    replace hBx := Lib.hid (hBx.out.fix hm1)
    replace hm2 := Lib.hid (hm2.out.trans hm1)
    clear hm1
    have hcx := Lib.hid (equal_any A A _ _ _ _ _ _ _ hC1.out hA1.out)
    rw [eqAu_self] at hcx
    obtain ⟨x0, x1, x2⟩ := hBx.out
    obtain ⟨y0, y1, y2⟩ := hBc.out
    go_wp2_with fail
    refine hcx.out.mono ?_
    rintro e w8 ⟨rfl, hm1⟩
    generalize w7.heap.size = bc at *
    replace hA1 := Lib.hid (hA1.out.fix hm1)
    replace hBx := Lib.hid (hBx.out.fix hm1)
    replace hm2 := Lib.hid (hm2.out.trans hm1)
    replace hC1 := Lib.hid (hC1.out.fix hm1)
    replace hBc := Lib.hid (hBc.out.fix hm1)
    clear hm1 hcx x0 x1 x2 y0 y1 y2
    obtain ⟨x0, x1, x2⟩ := hBx.out
    go_wp2_with fail
    refine (clone_any A _ _ _ _ hA1.out hsm.out.1 hsm.out.2.1 hsm.out.2.2.1 hsm.out.2.2.2).mono ?_
    rintro e w9 ⟨v1', v2', v3', rfl, hOC, hm1⟩
    obtain ⟨vs, hvl, hD⟩ := Dst.start hOC
    obtain ⟨e1, f1, rfl⟩ := ownsRow_slice hOC.r
    obtain ⟨e2, f2, rfl⟩ := ownsRow_slice hOC.f
    obtain ⟨vs', hT⟩ := hOC.t
    obtain ⟨e3, f3, rfl⟩ := ownsRow_slice hD.t
    clear hOC hT vs'
    have hma := hm1.alloc (.cells #[.slice e1 A.ranks.length f1, .slice e2 A.final.length f2, .slice e3 vs.length f3] 35)
    have hbl := hBx.out.lt
    have hcl := hBc.out.lt
    have hzw := hm2.out.size
    have hA2 := Lib.hid ((hA1.out.mono (M' := fun b => w8.heap.size ≤ b) (fun b hb e => by omega)).fix hma)
    have hC2 := Lib.hid ((hC1.out.mono (M' := fun b => w8.heap.size ≤ b) (fun b hb e => by omega)).fix hma)
    have hBx2 := Lib.hid (hBx.out.fix hma)
    have hBc2 := Lib.hid (hBc.out.fix hma)
    replace hm2 := Lib.hid (hm2.out.trans hma)
    replace hvl := Lib.hid hvl
    replace hD := Lib.hid hD
    clear hm1 hma x0 x1 x2 hA1 hC1 hBx hBc
    generalize w8.heap.size = B at *
    go_wp2
    generalize w9.alloc (.cells #[.slice e1 A.ranks.length f1, .slice e2 A.final.length f2, .slice e3 vs.length f3] 35) = wd at *
    generalize w9.heap.size = bd at *
    go_loopw [9] (fun i wr => ∃ k : Nat, k ≤ A.final.length ∧ i = .int .i64 k ∧ Dst wd B bd (.slice e1 A.ranks.length f1) (.slice e2 A.final.length f2) (.slice e3 vs.length f3) A.ranks.length A.final.length vs (A.to.map List.length) wr) (fun i _ => A.final.length - (intOf i).toNat)
    case atStart => exact ⟨0, by omega, rfl, hD.out⟩
    case round =>
      clear hD
      obtain ⟨k, hk, rfl, hD⟩ := hrel
      obtain ⟨z0, z1, z2⟩ := hD.cells
      by_cases hlt : k < A.final.length
      · obtain ⟨g, x, cur, rfl, hc, hfz, hg, hgB⟩ := hD.f.cell hlt
        have hnext := Lib.hid ((hD.fixed (Mut.refl _ wr).drew).setB (k := k) hg hgB (!x))
        replace hD := Lib.hid hD
        replace hg := Lib.hid hg
        go_wp2
        have hne' := Cls.ne (Mut.refl (fun _ => False) wr)
        refine wp_plan (Fix wr) [0, 1, 2, 3, 4, 5, 6, 7, 8, 9] [([0, 1, 2, 3, 4, 5, 6, 7, 8, 9], none)] [10] (by kernel_rfl) (by kernel_rfl) ?_
        refine ⟨Of.mk (Mut.refl _ wr).drew, ?_⟩
        simp only [wpPlan, pickOps_cons, pickOps_nil, List.getElem?_cons_zero, List.getElem?_cons_succ, pickOp_some]
        have s0 := fun x : Cls (Fix wr) => x.ok.cell z1 (by simp)
        have s1 := fun x : Cls (Fix wr) => x.ok.cell hc (by simp)
        repeat (go_big_quiet_step (fail))
        refine wpQuiet_nil ?_
        clear s0 s1
        go_wp2
        refine NoPanic.normal ?_
        go_wp2
        go_roundw
        case rel => exact ⟨k + 1, by omega, by go_num, hnext.out⟩
        case measure => simp [intOf]; omega
      · obtain rfl : k = A.final.length := by omega
        have hD1 := Lib.hid hD
        have hvb : vs.length ≤ 4096 := by rw [hvl.out]; exact hsm.out.2.2.1
        clear hD
        go_wp2
        go_loopw [10] (fun i wr => ∃ k : Nat, k ≤ vs.length ∧ i = .int .i64 k ∧ Dst wd B bd (.slice e1 A.ranks.length f1) (.slice e2 A.final.length f2) (.slice e3 vs.length f3) A.ranks.length A.final.length vs (A.to.map List.length) wr) (fun i _ => vs.length - (intOf i).toNat)
        case atStart => exact ⟨0, by omega, rfl, hD1.out⟩
        case round =>
          clear hD1 z0 z1 z2
          obtain ⟨k, hk, rfl, hD⟩ := hrel
          obtain ⟨z0, z1, z2⟩ := hD.cells
          by_cases hlt : k < vs.length
          · obtain ⟨g, ra, rc, n, rfl, hl, hv, hc, hr⟩ := hD.row hlt
            have hnb : n ≤ 4096 := by
              rw [List.getElem?_map] at hl
              obtain ⟨r, hr1, rfl⟩ := Option.map_eq_some_iff.1 hl
              exact hsm.out.2.2.2 r (List.mem_of_getElem? hr1)
            have hD2 := Lib.hid hD
            replace hl := Lib.hid hl
            replace hv := Lib.hid hv
            clear hD hr
            go_wp2
            go_loopw [11] (fun i wr => ∃ m : Nat, m ≤ n ∧ i = .int .i64 m ∧ Dst wd B bd (.slice e1 A.ranks.length f1) (.slice e2 A.final.length f2) (.slice (some ⟨g, 0, none⟩) vs.length f3) A.ranks.length A.final.length vs (A.to.map List.length) wr) (fun i _ => n - (intOf i).toNat)
            case atStart => exact ⟨0, by omega, rfl, hD2.out⟩
            case round =>
              clear hD2 z0 z1 z2 hc
              obtain ⟨m, hm, rfl, hD⟩ := hrel
              obtain ⟨z0, z1, z2⟩ := hD.cells
              obtain ⟨hc, hr⟩ := hD.row2 hv.out hl.out
              by_cases hlt3 : m < n
              · obtain ⟨gr, x, cur, rfl, hc2, hfz, hg, hgB⟩ := hr.cell hlt3
                have hnext := Lib.hid (fun y => hD.setI (k := m) hg hgB y)
                replace hg := Lib.hid hg
                clear hD hr
                go_wp2
                go_roundw
                case rel => exact ⟨m + 1, by omega, by go_num, hnext.out _⟩
                case measure => simp [intOf]; omega
              · obtain rfl : m = n := by omega
                have hD3 := Lib.hid hD
                clear hD hr
                go_wp2
                go_roundw
                case rel => exact ⟨k + 1, by omega, by go_num, hD3.out⟩
                case measure => simp [intOf]; omega
          · obtain rfl : k = vs.length := by omega
            have hD2 := Lib.hid hD
            clear hD
            go_wp2
            go_loopw [12] (fun i wr => ∃ k : Nat, k ≤ A.ranks.length ∧ i = .int .i64 k ∧ Dst wd B bd (.slice e1 A.ranks.length f1) (.slice e2 A.final.length f2) (.slice e3 vs.length f3) A.ranks.length A.final.length vs (A.to.map List.length) wr) (fun i _ => A.ranks.length - (intOf i).toNat)
            case atStart => exact ⟨0, by omega, rfl, hD2.out⟩
            case round =>
              clear hD2 z0 z1 z2
              obtain ⟨m, hm, rfl, hD⟩ := hrel
              obtain ⟨z0, z1, z2⟩ := hD.cells
              by_cases hlt3 : m < A.ranks.length
              · obtain ⟨gr, x, cur, rfl, hc2, hfz, hg, hgB⟩ := hD.r.cell hlt3
                have hnext := Lib.hid (fun y => hD.setI (k := m) hg hgB y)
                replace hg := Lib.hid hg
                clear hD
                go_wp2
                go_roundw
                case rel => exact ⟨m + 1, by omega, by go_num, hnext.out _⟩
                case measure => simp [intOf]; omega
              · obtain rfl : m = A.ranks.length := by omega
                have hmf := hD.fix
                have hm3 := Lib.hid (hm2.out.trans' hmf (fun i hi e => by omega))
                have hBx3 := Lib.hid (hBx2.out.mut hmf (by omega))
                have hBc3 := Lib.hid (hBc2.out.mut hmf (by omega))
                have hA3 := Lib.hid ((hA2.out.mut hmf (fun _ _ e => e)).mono (M' := fun _ => False) (fun _ _ e => e.elim))
                have hC3 := Lib.hid ((hC2.out.mut hmf (fun _ _ e => e)).mono (M' := fun _ => False) (fun _ _ e => e.elim))
                clear hD hmf hA2 hC2 hBx2 hBc2 hm2
                go_wp2_with fail
                refine (known_any _).mono ?_
                rintro e w10 ⟨rfl, hm1⟩
                obtain ⟨x0, x1, x2⟩ := hBx3.out.fix hm1
                obtain ⟨y0, y1, y2⟩ := hBc3.out.fix hm1
                have hcx := Lib.hid (equal_any A A _ _ _ _ _ _ _ (hC3.out.fix hm1) (hA3.out.fix hm1))
                rw [eqAu_self] at hcx
                replace hm3 := Lib.hid (hm3.out.trans hm1)
                clear hm1
                go_wp2_with fail
                refine hcx.out.mono ?_
                rintro e w11 ⟨rfl, hm1⟩
                replace hm3 := Lib.hid (hm3.out.trans hm1)
                clear hm1
                go_wp2
                go_ret
                exact ⟨rfl, hm3.out⟩

  · exact ⟨_, _, _, _, _, _, M2.start (u1 := undef) (u2 := undef) (u3 := undef) (u4 := undef) (u5 := undef) (u6 := undef) (Mut.refl _ _).drew rfl⟩

theorem eqclone_walk (A B : Au) (v1 v2 v3 u1 u2 u3 : Value) (w : World) (hA : AuIn (fun _ => False) w v1 v2 v3 A) (hB : AuIn (fun _ => False) w u1 u2 u3 B) :
    Calls Try.prog 5 #[.agg #[v1, v2, v3], .agg #[u1, u2, u3]] w fun e w' => e = .returned (.bool true) ∧ Below w.heap.size w w' := by
  have key : Calls Try.prog 5 #[.agg #[v1, v2, v3], .agg #[u1, u2, u3]] w (TruePost w) := by
    cases hf : fewB A with
    | false => exact eqclone_many1 A B v1 v2 v3 u1 u2 u3 w hA hB hf
    | true =>
      cases hg : fewB B with
      | false => exact eqclone_many2 A B v1 v2 v3 u1 u2 u3 w hA hB hf hg
      | true => exact eqclone_few A B v1 v2 v3 u1 u2 u3 w hA hB hf hg
  exact key.mono fun e w' h => ⟨h.1, h.2.below⟩
end Go.Proofs.Ytdakoccbmeojhaa
