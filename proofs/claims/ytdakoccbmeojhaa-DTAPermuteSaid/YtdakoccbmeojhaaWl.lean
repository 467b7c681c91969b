/- DTARun returns true. Condition: an automaton, a tree in memory. -/
import Derived.Test.YtdakoccbmeojhaaWk
import Derived.Test.YtdakoccbmeojhaaInv
set_option linter.unusedSimpArgs false
set_option linter.unusedVariables false
set_option maxHeartbeats 400000
namespace Go.Proofs.Ytdakoccbmeojhaa
open Go Go.RowKit Go.PP

def GA (v : Value) (M : Nat → Prop) (w : World) (u : Value) : Prop := u = v
theorem GA.good (v : Value) : Stays (GA v) := ⟨fun h _ _ => h, fun h _ => h⟩
def GT (d : Nat) (s : Int) (t : Tr) (M : Nat → Prop) (w : World) (u : Value) : Prop := ∃ v', u = .agg #[.int .i64 s, v'] ∧ TreeIn M w d s v' t
theorem GT.good (d : Nat) (s : Int) (t : Tr) : Stays (GT d s t) :=
  ⟨fun ⟨v', h1, h2⟩ m hs => ⟨v', h1, h2.mut m hs⟩, fun ⟨v', h1, h2⟩ hM => ⟨v', h1, h2.mono hM⟩⟩

theorem own_good (d : Nat) (s : Int) (v : Value) (t : Tr) (w : World) (h : TreeIn (fun _ => False) w d s v t) : Calls Try.prog 17 #[.agg #[.int .i64 s, v]] w fun e w' => ∃ u, e = .returned u ∧ GT d s t (fun b => b < w.heap.size) w' u ∧ Fix w w' :=
  (own_any d s v t w h).mono fun e w' ⟨v', h1, h2, h3⟩ => ⟨_, h1, ⟨v', rfl, h2⟩, h3⟩

theorem runE_zero {d : Nat} {A : Au} {t : Tr} (h1 : (runE d A t).2 = 0) : ∃ (y : Nat) (bq : Bool), (runE d A t).1 = (y : Int) ∧ y < A.final.length ∧ A.final[y]? = some bq ∧ acceptsB d A t = bq := by
  have hgood : chk A = 0 ∧ nodesE d A.ranks t = 0 ∧ (runE d A t).1 = stateT A d t := by
    by_cases h2 : chk A = 0
    · by_cases h3 : rightE d A.ranks t = 0
      · exact ⟨h2, rightE_zero h3, by rw [runE_good h2 h3]⟩
      · rw [runE_right h2 h3] at h1; exact absurd h1 h3
    · rw [runE_chk h2] at h1; exact absurd h1 h2
  obtain ⟨g1, g2, g3⟩ := hgood
  obtain ⟨b1, b2⟩ := state_rng (chk_ok g1) d t g2
  obtain ⟨y, hy⟩ := Int.eq_ofNat_of_zero_le b1
  have hyl : y < A.final.length := by omega
  refine ⟨y, A.final[y], by rw [g3, hy], hyl, by simp, ?_⟩
  unfold acceptsB
  rw [h1, g3, hy]
  simp [List.getD, hyl]

theorem store3 (w : World) (b n : Nat) (wb : World) (v1 v2 v3 : Value) (h : Var n wb (.pointer (some ⟨b, 0, none⟩)) w) (hn : 3 ≤ n) :
    Mut (fun c => (Value.pointer (some ⟨b, 0, none⟩)) = .pointer (some ⟨c, 0, none⟩)) w (((w.setCell ⟨b, 0, none⟩ v1).setCell ⟨b, 1, none⟩ v2).setCell ⟨b, 2, none⟩ v3) ∧
      Var n wb (.pointer (some ⟨b, 0, none⟩)) (((w.setCell ⟨b, 0, none⟩ v1).setCell ⟨b, 1, none⟩ v2).setCell ⟨b, 2, none⟩ v3) ∧
      Held (.pointer (some ⟨b, 0, none⟩)) (.agg #[v1, v2, v3]) (((w.setCell ⟨b, 0, none⟩ v1).setCell ⟨b, 1, none⟩ v2).setCell ⟨b, 2, none⟩ v3) := by
  obtain ⟨x0, d0, -⟩ := h.cell (i := 0) (by omega)
  obtain ⟨x1, d1, -⟩ := h.cell (i := 1) (by omega)
  obtain ⟨x2, d2, -⟩ := h.cell (i := 2) (by omega)
  refine ⟨(((Mut.refl _ w).setCell (by simp) _).setCell (by simp) _).setCell (by simp) _, ((h.set _ _).set _ _).set _ _, b, #[v1, v2, v3], rfl, rfl, fun i x hx => ?_⟩
  rcases i with _ | _ | _ | i
  · simp at hx; subst hx
    rw [World.cell?_setCell_other _ _ _ _ (by simp), World.cell?_setCell_other _ _ _ _ (by simp)]
    exact World.cell?_setCell_same _ _ _ d0
  · simp at hx; subst hx
    rw [World.cell?_setCell_other _ _ _ _ (by simp)]
    exact World.cell?_setCell_same _ _ _ (by rw [World.cell?_setCell_other _ _ _ _ (by simp)]; exact d1)
  · simp at hx; subst hx
    exact World.cell?_setCell_same _ _ _ (by rw [World.cell?_setCell_other _ _ _ _ (by simp), World.cell?_setCell_other _ _ _ _ (by simp)]; exact d2)
  · simp at hx
theorem store2 (w : World) (b n : Nat) (wb : World) (v1 v2 : Value) (h : Var n wb (.pointer (some ⟨b, 0, none⟩)) w) (hn : 2 ≤ n) :
    Mut (fun c => (Value.pointer (some ⟨b, 0, none⟩)) = .pointer (some ⟨c, 0, none⟩)) w ((w.setCell ⟨b, 0, none⟩ v1).setCell ⟨b, 1, none⟩ v2) ∧
      Var n wb (.pointer (some ⟨b, 0, none⟩)) ((w.setCell ⟨b, 0, none⟩ v1).setCell ⟨b, 1, none⟩ v2) ∧
      Held (.pointer (some ⟨b, 0, none⟩)) (.agg #[v1, v2]) ((w.setCell ⟨b, 0, none⟩ v1).setCell ⟨b, 1, none⟩ v2) := by
  obtain ⟨x0, d0, -⟩ := h.cell (i := 0) (by omega)
  obtain ⟨x1, d1, -⟩ := h.cell (i := 1) (by omega)
  refine ⟨((Mut.refl _ w).setCell (by simp) _).setCell (by simp) _, (h.set _ _).set _ _, b, #[v1, v2], rfl, rfl, fun i x hx => ?_⟩
  rcases i with _ | _ | i
  · simp at hx; subst hx
    rw [World.cell?_setCell_other _ _ _ _ (by simp)]
    exact World.cell?_setCell_same _ _ _ d0
  · simp at hx; subst hx
    exact World.cell?_setCell_same _ _ _ (by rw [World.cell?_setCell_other _ _ _ _ (by simp)]; exact d1)
  · simp at hx

set_option maxRecDepth 8000 in
set_option maxHeartbeats 4000000 in
theorem runlaw_big (d : Nat) (A : Au) (s : Int) (v v1 v2 v3 : Value) (t : Tr) (w : World) (ht : TreeIn (fun _ => False) w d s v t) (hA : AuIn (fun _ => False) w v1 v2 v3 A) (hf : fewB A = true) (hb : treeB d t = true) :
    Calls Try.prog 3 #[.agg #[v1, v2, v3], .agg #[.int .i64 s, v]] w (TruePost w) := by
  have ht0 := Lib.hid ht
  have hA0 := Lib.hid hA
  obtain ⟨a, n, c, rfl⟩ := ht.shape
  obtain ⟨a1, c1, a2, c2, a3, c3, rfl, rfl, rfl, l1, l2, l3⟩ := hA.open
  clear ht hA
  have hB := BoxA.mk' w (.slice a1 A.ranks.length c1) (.slice a2 A.final.length c2) (.slice a3 A.to.length c3) 26
  have hm1 := (Mut.refl (fun _ => False) w).alloc (.cells #[.slice a1 A.ranks.length c1, .slice a2 A.final.length c2, .slice a3 A.to.length c3] 26)
  have hT := BoxT.mk' (w.alloc (.cells #[.slice a1 A.ranks.length c1, .slice a2 A.final.length c2, .slice a3 A.to.length c3] 26)) s (.slice a n c) 29
  have hB2 := hB.fix ((Mut.refl (fun _ => False) _).alloc (.cells #[.int .i64 s, .slice a n c] 29))
  have hm2 := hm1.alloc (.cells #[.int .i64 s, .slice a n c] 29)
  rw [show (w.alloc (.cells #[.slice a1 A.ranks.length c1, .slice a2 A.final.length c2, .slice a3 A.to.length c3] 26)).heap.size = w.heap.size + 1 from by simp] at hT
  have hfw := few_any _ _ _ _ A (hA0.out.fix hm2)
  rw [hf] at hfw
  have htr := Lib.hid (fun w1 (hm : Fix _ w1) => tree_any d s _ t w1 ((ht0.out.fix hm2).fix hm))
  rw [hb] at htr
  replace hfw := Lib.hid hfw
  replace hB2 := Lib.hid hB2
  replace hT := Lib.hid hT
  replace hm2 := Lib.hid hm2
  clear hB hm1 hf hb
  go_enter Try.func3, Try.ntmps3
  go_wp2_with fail
  refine hfw.out.mono ?_
  rintro e w1 ⟨rfl, hm1⟩
  obtain ⟨t0, t1⟩ := hT.out.fix hm1
  have htr1 := Lib.hid (htr.out _ hm1)
  replace hB2 := Lib.hid (hB2.out.fix hm1)
  replace hT := Lib.hid (hT.out.fix hm1)
  replace hm2 := Lib.hid (hm2.out.trans hm1)
  clear hm1
  go_wp2_with fail
  refine htr1.out.mono ?_
  rintro e wb ⟨rfl, hm1⟩
  replace hB2 := Lib.hid (hB2.out.fix hm1)
  replace hT := Lib.hid (hT.out.fix hm1)
  replace hm2 := Lib.hid (hm2.out.trans hm1)
  clear hm1 htr htr1 hfw t0 t1
  have htb := Lib.hid (ht0.out.fix hm2.out)
  obtain ⟨k0, k1, k2⟩ := hB2.out
  obtain ⟨t0, t1⟩ := hT.out
  go_wp2
  refine wp_region_inv3 (fun a0 L a' w' => ∃ u1 u2 u3 u4 u5 u6, M2 wb [21, 22, 23, 24, 5, 6] (.agg #[.slice a1 A.ranks.length c1, .slice a2 A.final.length c2, .slice a3 A.to.length c3]) (.agg #[.int .i64 s, .slice a n c]) (GA (.agg #[.slice a1 A.ranks.length c1, .slice a2 A.final.length c2, .slice a3 A.to.length c3])) (GT d s t) 3 2 a0 L a' w' u1 u2 u3 u4 u5 u6) (by kernel_rfl) ?_ ?_ ?_
  · rintro L a' w' i ⟨u1, u2, u3, u4, u5, u6, hM⟩ dc hi
    have hdown := fun j o (ho : _ = some o) hk => not_listed dc hi (j := j) (o := o) ho hk
    have hready := fun o (ho : _ = some o) k hk => ready_after hi (o := o) ho k hk
    obtain ⟨hLi, o, ho, -⟩ := mem_ready.1 hi
    have hi8 : i < 8 := (Array.getElem?_eq_some_iff.1 ho).1
    have hact := hM.act
    subst hact
    simp only [putAll]
    clear ho
    rcases (show i = 0 ∨ i = 1 ∨ i = 2 ∨ i = 3 ∨ i = 4 ∨ i = 5 ∨ i = 6 ∨ i = 7 by omega) with rfl | rfl | rfl | rfl | rfl | rfl | rfl | rfl
    · have q1 := hdown 1 _ rfl (by kernel_rfl)
      have c0 := hM.fix.cell k0 (by simp)
      have c1 := hM.fix.cell k1 (by simp)
      have c2 := hM.fix.cell k2 (by simp)
      have H := Lib.hid (fun a' (ha : a' = _) => hM.s0 (GA.good _) (GT.good d s t) (a' := a') ha q1)
      clear hM hdown hready dc hi q1
      refine wpOp_of_list rfl ?_
      go_wp2
      exact ⟨_, _, _, _, _, _, H.out _ rfl⟩
    · have q0 := hready _ rfl 0 (by kernel_rfl)
      have q6 := hdown 6 _ rfl (by kernel_rfl)
      obtain rfl := hM.h0 q0
      have H := Lib.hid (fun w2 (m : Fix w' w2) a' (ha : a' = _) => hM.s1 (GA.good _) (GT.good d s t) m (v := (.agg #[.slice a1 A.ranks.length c1, .slice a2 A.final.length c2, .slice a3 A.to.length c3])) rfl (a' := a') ha q6)
      clear hM hdown hready dc hi q0 q6
      refine wpOp_of_list rfl ?_
      go_wp2_with fail
      refine (from_any _ _ _ _ _ _ _ _ _ _ _ _ rfl rfl rfl _).mono ?_
      rintro e w2 ⟨rfl, hm⟩
      replace H := Lib.hid (H.out w2 hm)
      clear hm
      go_wp2
      exact ⟨_, _, _, _, _, _, H.out _ rfl⟩
    · have c0 := hM.fix.cell t0 (by simp)
      have c1 := hM.fix.cell t1 (by simp)
      have H := Lib.hid (fun a' (ha : a' = _) => hM.s2 (GA.good _) (GT.good d s t) (a' := a') ha)
      clear hM hdown hready dc hi
      refine wpOp_of_list rfl ?_
      go_wp2
      exact ⟨_, _, _, _, _, _, H.out _ rfl⟩
    · have q2 := hready _ rfl 2 (by kernel_rfl)
      have q7 := hdown 7 _ rfl (by kernel_rfl)
      obtain rfl := hM.h2 q2
      have hto := Lib.hid (htb.out.fix hM.fix)
      have H := Lib.hid (fun w2 v (m : Fix w' w2) (hv : GT d s t (fun b => b < w'.heap.size) w2 v) a' (ha : a' = _) => hM.s3 (GA.good _) (GT.good d s t) m hv (a' := a') ha q7)
      clear hM hdown hready dc hi q2 q7
      refine wpOp_of_list rfl ?_
      go_wp2_with fail
      refine (own_good d s _ t _ hto.out).mono ?_
      rintro e w2 ⟨u, rfl, hg, hm⟩
      replace H := Lib.hid (H.out w2 u hm hg)
      obtain ⟨v', rfl, hg⟩ := hg
      obtain ⟨va, vn, vc, rfl⟩ := hg.shape
      clear hm hg
      go_wp2
      exact ⟨_, _, _, _, _, _, H.out _ rfl⟩
    · have q6 := hdown 6 _ rfl (by kernel_rfl)
      have H := Lib.hid (fun cs hc a' (ha : a' = _) => hM.s4 (GA.good _) (GT.good d s t) cs 35 hc (a' := a') ha q6 (getD_not_both hLi))
      clear hM hdown hready dc hi q6
      refine wpOp_of_list rfl ?_
      go_wp2
      exact ⟨_, _, _, _, _, _, H.out _ rfl _ rfl⟩
    · have q6 := hdown 6 _ rfl (by kernel_rfl)
      have H := Lib.hid (fun cs hc a' (ha : a' = _) => hM.s5 (GA.good _) (GT.good d s t) cs 39 hc (a' := a') ha q6 (getD_not_both hLi))
      clear hM hdown hready dc hi q6
      refine wpOp_of_list rfl ?_
      go_wp2
      exact ⟨_, _, _, _, _, _, H.out _ rfl _ rfl⟩
    · have q1 := hready _ rfl 1 (by kernel_rfl)
      have q4 := hready _ rfl 4 (by kernel_rfl)
      have q7 := hdown 7 _ rfl (by kernel_rfl)
      obtain rfl := hM.h1 q1
      have hv5 := hM.h4 q4
      obtain ⟨bx, cs, T, rfl, hbx, -, -⟩ := id hv5
      obtain ⟨x0, d0, f0⟩ := hv5.cell (i := 0) (by omega)
      obtain ⟨x1, d1, f1⟩ := hv5.cell (i := 1) (by omega)
      obtain ⟨x2, d2, f2⟩ := hv5.cell (i := 2) (by omega)
      have H := Lib.hid (fun w2 m v5 v6 hh a' (ha : a' = _) => hM.s6 (w' := w2) (GA.good _) (GT.good d s t) q4 m v5 v6 hh q7 (a' := a') ha)
      have hst := Lib.hid (store3 w' bx 3 wb (.slice a1 A.ranks.length c1) (.slice a2 A.final.length c2) (.slice a3 A.to.length c3) hv5 (by omega))
      have hv6 := Lib.hid hM.h5
      clear hM hdown hready dc hi q1 q4 q7 hv5
      refine wpOp_of_list rfl ?_
      go_wp2
      exact ⟨_, _, _, _, _, _, H.out _ hst.out.1 hst.out.2.1 (fun q => ((hv6.out q).set _ _).set _ _ |>.set _ _) hst.out.2.2 _ rfl⟩
    · have q3 := hready _ rfl 3 (by kernel_rfl)
      have q4 := hready _ rfl 4 (by kernel_rfl)
      have q5 := hready _ rfl 5 (by kernel_rfl)
      have q6 := hready _ rfl 6 (by kernel_rfl)
      obtain ⟨v', rfl, hg⟩ := hM.h3 q3
      obtain ⟨va, vn, vc, rfl⟩ := hg.shape
      have hv6 := hM.h5 q5
      obtain ⟨by', cs, T, rfl, hby, -, -⟩ := id hv6
      obtain ⟨x0, d0, f0⟩ := hv6.cell (i := 0) (by omega)
      obtain ⟨x1, d1, f1⟩ := hv6.cell (i := 1) (by omega)
      have H := Lib.hid (fun w2 m v5 v6 hh a' (ha : a' = _) => hM.s7 (w' := w2) (GA.good _) (GT.good d s t) q4 q5 q6 m v5 v6 hh (a' := a') ha)
      have hst := Lib.hid (store2 w' by' 2 wb (.int .i64 s) (.slice va vn vc) hv6 (by omega))
      have hv5 := Lib.hid (hM.h4 q4)
      clear hM hdown hready dc hi q3 q4 q5 q6 hv6 hg
      refine wpOp_of_list rfl ?_
      go_wp2
      exact ⟨_, _, _, _, _, _, H.out _ hst.out.1 ((hv5.out.set _ _).set _ _) hst.out.2.1 hst.out.2.2 _ rfl⟩
  · rintro L a' w' ⟨u1, u2, u3, u4, u5, u6, hM⟩ hr
    have hall := all_listed hr (by kernel_rfl) hM.size
    obtain rfl := hM.h1 (hall 1 (by decide))
    obtain ⟨v', rfl, hg⟩ := hM.h3 (hall 3 (by decide))
    obtain ⟨va, vn, vc, rfl⟩ := hg.shape
    obtain ⟨bx, cs, rfl, hcs, hx⟩ := hM.h6 (hall 6 (by decide))
    obtain ⟨by', cs', rfl, hcs', hy⟩ := hM.h7 (hall 7 (by decide))
    simp only [Value.agg.injEq] at hcs hcs'
    subst hcs hcs'
    have hBx := Lib.hid (show BoxA bx (.slice a1 A.ranks.length c1) (.slice a2 A.final.length c2) (.slice a3 A.to.length c3) w' from ⟨hx 0 _ rfl, hx 1 _ rfl, hx 2 _ rfl⟩)
    have hBy := Lib.hid (show BoxT by' s (.slice va vn vc) w' from ⟨hy 0 _ rfl, hy 1 _ rfl⟩)
    have hTy := Lib.hid (show TreeIn (fun _ => False) w' d s (.slice va vn vc) t from hg.mono (fun b _ e => e.elim))
    have hfx := Lib.hid hM.fix
    have hact := hM.act
    subst hact
    clear hM hg hx hy hall hr
    simp only [putAll]
    refine NoPanic.normal ?_
    have hA1 := Lib.hid (hA0.out.fix (hm2.out.trans hfx.out))
    have hB1 := Lib.hid (hB2.out.fix hfx.out)
    have hT1 := Lib.hid (hT.out.fix hfx.out)
    have hmm := Lib.hid (hm2.out.trans hfx.out)
    have hTr := Lib.hid (ht0.out.fix hmm.out)
    clear hfx k0 k1 k2 t0 t1 htb
    obtain ⟨x0, x1, x2⟩ := hBx.out
    obtain ⟨y0, y1⟩ := hBy.out
    go_wp2_with fail
    refine (run18_any d A s _ _ _ _ t _ hTy.out hA1.out).mono ?_
    unfold RunPost
    rintro e w2 ⟨rfl, hm1⟩
    replace hA1 := Lib.hid (hA1.out.fix hm1)
    replace hB1 := Lib.hid (hB1.out.fix hm1)
    replace hT1 := Lib.hid (hT1.out.fix hm1)
    replace hBx := Lib.hid (hBx.out.fix hm1)
    replace hBy := Lib.hid (hBy.out.fix hm1)
    replace hTy := Lib.hid (hTy.out.fix hm1)
    replace hTr := Lib.hid (hTr.out.fix hm1)
    replace hmm := Lib.hid (hmm.out.trans hm1)
    clear hm1 x0 x1 x2 y0 y1
    obtain ⟨k0, k1, k2⟩ := hB1.out
    obtain ⟨t0, t1⟩ := hT1.out
    go_wp2_with fail
    refine (run19_any d A s _ _ _ _ t _ hTr.out hA1.out).mono ?_
    unfold RunPost
    rintro e w3 ⟨rfl, hm1⟩
    replace hA1 := Lib.hid (hA1.out.fix hm1)
    replace hB1 := Lib.hid (hB1.out.fix hm1)
    replace hT1 := Lib.hid (hT1.out.fix hm1)
    replace hBx := Lib.hid (hBx.out.fix hm1)
    replace hBy := Lib.hid (hBy.out.fix hm1)
    replace hTy := Lib.hid (hTy.out.fix hm1)
    replace hmm := Lib.hid (hmm.out.trans hm1)
    clear hm1 k0 k1 k2 t0 t1 hTr
    obtain ⟨k0, k1, k2⟩ := hB1.out
    obtain ⟨x0, x1, x2⟩ := hBx.out
    obtain ⟨y0, y1⟩ := hBy.out
    have hac := Lib.hid (fun w4 (hm4 : Fix w3 w4) => accepts_any d A s _ _ _ _ t w4 (hTy.out.fix hm4) (hA1.out.fix hm4))
    have hck := Lib.hid (fun w4 (hm4 : Fix w3 w4) => check_any _ _ _ A w4 (hA1.out.fix hm4))
    have hrk := Lib.hid (fun w4 (hm4 : Fix w3 w4) => rcheck_any _ _ _ A w4 (hA1.out.fix hm4))
    have he0 : ((chk A : Int) == (chk A : Int)) = true := by simp
    have he1 : ((runE d A t).1 == (runE d A t).1) = true := by simp
    have he2 : (((runE d A t).2 : Int) == ((runE d A t).2 : Int)) = true := by simp
    by_cases hz : (runE d A t).2 = 0
    · obtain ⟨y, bq, e1, e2, e3, e4⟩ := runE_zero hz
      rw [e4] at hac
      rw [e1] at he1 ⊢
      rw [hz, show ((0 : Nat) : Int) = 0 from rfl] at he2 ⊢
      have hbb : (bq == bq) = true := by cases bq <;> rfl
      obtain ⟨b5, off5, x5, rfl, hx5, hc5⟩ := hA1.out.f.slot (Mut.refl _ w3) e2
      obtain rfl : bq = x5 := by rw [e3] at hx5; exact Option.some.inj hx5
      replace hz := Lib.hid hz
      replace e1 := Lib.hid e1
      replace e3 := Lib.hid e3
      replace e4 := Lib.hid e4
      clear hx5
      generalize chk A = ck at *
      go_wp2
      have hS := Lib.hid (show Fix w3 w3.drew from (Mut.refl _ _).drew)
      have hne' := Cls.ne hS.out
      refine wp_plan (Fix w3) [0, 1, 2, 3, 4, 5, 6, 7, 8, 9, 10, 11, 12, 13, 14, 15, 16, 17, 18, 19, 20, 21, 22] [([], some 0), ([1, 2, 4], some 3), ([], some 5), ([6, 7, 8, 9, 10, 11, 12, 13, 14, 15, 16, 17, 18, 19, 20, 22], some 21)] [23, 24, 25] (by kernel_rfl) (by kernel_rfl) ?_
      refine ⟨Of.mk hS.out, ?_⟩
      simp only [wpPlan, pickOps_cons, pickOps_nil, List.getElem?_cons_zero, List.getElem?_cons_succ, pickOp_some]
      have s0 := fun x : Cls (Fix w3) => x.ok.cell k0 (by simp)
      have s1 := fun x : Cls (Fix w3) => x.ok.cell k1 (by simp)
      have s2 := fun x : Cls (Fix w3) => x.ok.cell k2 (by simp)
      have s3 := fun x : Cls (Fix w3) => x.ok.cell x0 (by simp)
      have s4 := fun x : Cls (Fix w3) => x.ok.cell x1 (by simp)
      have s5 := fun x : Cls (Fix w3) => x.ok.cell x2 (by simp)
      have s6 := fun x : Cls (Fix w3) => x.ok.cell y0 (by simp)
      have s7 := fun x : Cls (Fix w3) => x.ok.cell y1 (by simp)
      refine wpQuiet_nil ?_
      go_wp2_with fail
      refine (known_any _).mono ?_
      rintro e w4 ⟨rfl, hm4⟩
      have hS4 := Lib.hid (hS.out.trans hm4)
      clear hm4
      go_wp2
      refine ⟨fun _ => Of.mk hS4.out, Of.mk hS4.out, ?_⟩
      repeat (go_big_quiet_step (fail))
      refine wpQuiet_nil ?_
      go_wp2_with fail
      refine (hck.out _ hS4.out).mono ?_
      rintro e w5 ⟨rfl, hm4⟩
      have hS5 := Lib.hid (hS4.out.trans hm4)
      clear hm4
      go_wp2
      refine ⟨fun _ => Of.mk hS5.out, Of.mk hS5.out, wpQuiet_nil ?_⟩
      go_wp2_with fail
      refine (hrk.out _ hS5.out).mono ?_
      rintro e w6 ⟨rfl, hm4⟩
      have hS6 := Lib.hid (hS5.out.trans hm4)
      clear hm4
      go_wp2
      refine ⟨fun _ => Of.mk hS6.out, Of.mk hS6.out, ?_⟩
      repeat (go_big_quiet_step (fail))
      refine wpQuiet_nil ?_
      go_wp2_with fail
      refine (hac.out _ hS6.out).mono ?_
      rintro e w7 ⟨rfl, hm4⟩
      have hS7 := Lib.hid (hS6.out.trans hm4)
      clear hm4 s0 s1 s2 s3 s4 s5 s6 s7
      go_wp2
      refine ⟨fun _ => Of.mk hS7.out, ?_⟩
      go_wp2
      refine NoPanic.normal ?_
      go_wp2
      go_ret
      exact ⟨rfl, hmm.out.trans hS7.out⟩
    · have hne : (((runE d A t).2 : Int) == 0) = false := by simp; exact hz
      have hacc : acceptsB d A t = false := by unfold acceptsB; rw [show ((runE d A t).2 == 0) = false by simpa using hz, Bool.false_and]
      rw [hacc] at hac
      have hbb : (false == false) = true := rfl
      generalize (runE d A t).1 = y1' at *
      generalize (runE d A t).2 = y2' at *
      generalize chk A = ck at *
      replace hz := Lib.hid hz
      replace hacc := Lib.hid hacc
      go_wp2
      have hS := Lib.hid (show Fix w3 w3.drew from (Mut.refl _ _).drew)
      have hne' := Cls.ne hS.out
      refine wp_plan (Fix w3) [0, 1, 2, 3, 4, 5, 6, 7, 8, 9, 10, 11, 12, 13, 14, 15, 16, 17, 18, 19, 20, 21, 22] [([], some 0), ([1, 2, 4], some 3), ([], some 5), ([6, 7, 8, 9, 10, 11, 12, 13, 14, 15, 16, 17, 18, 19, 20, 22], some 21)] [23, 24, 25] (by kernel_rfl) (by kernel_rfl) ?_
      refine ⟨Of.mk hS.out, ?_⟩
      simp only [wpPlan, pickOps_cons, pickOps_nil, List.getElem?_cons_zero, List.getElem?_cons_succ, pickOp_some]
      have s0 := fun x : Cls (Fix w3) => x.ok.cell k0 (by simp)
      have s1 := fun x : Cls (Fix w3) => x.ok.cell k1 (by simp)
      have s2 := fun x : Cls (Fix w3) => x.ok.cell k2 (by simp)
      have s3 := fun x : Cls (Fix w3) => x.ok.cell x0 (by simp)
      have s4 := fun x : Cls (Fix w3) => x.ok.cell x1 (by simp)
      have s5 := fun x : Cls (Fix w3) => x.ok.cell x2 (by simp)
      have s6 := fun x : Cls (Fix w3) => x.ok.cell y0 (by simp)
      have s7 := fun x : Cls (Fix w3) => x.ok.cell y1 (by simp)
      refine wpQuiet_nil ?_
      go_wp2_with fail
      refine (known_any _).mono ?_
      rintro e w4 ⟨rfl, hm4⟩
      have hS4 := Lib.hid (hS.out.trans hm4)
      clear hm4
      go_wp2
      refine ⟨fun _ => Of.mk hS4.out, Of.mk hS4.out, ?_⟩
      repeat (go_big_quiet_step (fail))
      refine wpQuiet_nil ?_
      go_wp2_with fail
      refine (hck.out _ hS4.out).mono ?_
      rintro e w5 ⟨rfl, hm4⟩
      have hS5 := Lib.hid (hS4.out.trans hm4)
      clear hm4
      go_wp2
      refine ⟨fun _ => Of.mk hS5.out, Of.mk hS5.out, wpQuiet_nil ?_⟩
      go_wp2_with fail
      refine (hrk.out _ hS5.out).mono ?_
      rintro e w6 ⟨rfl, hm4⟩
      have hS6 := Lib.hid (hS5.out.trans hm4)
      clear hm4
      go_wp2
      refine ⟨fun _ => Of.mk hS6.out, Of.mk hS6.out, ?_⟩
      repeat (go_big_quiet_step (fail))
      refine wpQuiet_nil ?_
      go_wp2_with fail
      refine (hac.out _ hS6.out).mono ?_
      rintro e w7 ⟨rfl, hm4⟩
      have hS7 := Lib.hid (hS6.out.trans hm4)
      clear hm4 s0 s1 s2 s3 s4 s5 s6 s7
      go_wp2
      refine ⟨fun _ => Of.mk hS7.out, ?_⟩
      go_wp2
      refine NoPanic.normal ?_
      go_wp2
      go_ret
      exact ⟨rfl, hmm.out.trans hS7.out⟩
  · exact ⟨_, _, _, _, _, _, M2.start (u1 := undef) (u2 := undef) (u3 := undef) (u4 := undef) (u5 := undef) (u6 := undef) (Mut.refl _ _).drew rfl⟩

set_option maxRecDepth 8000 in
set_option maxHeartbeats 4000000 in
theorem runlaw_many (d : Nat) (A : Au) (s : Int) (v v1 v2 v3 : Value) (t : Tr) (w : World) (ht : TreeIn (fun _ => False) w d s v t) (hA : AuIn (fun _ => False) w v1 v2 v3 A) (hf : fewB A = false) :
    Calls Try.prog 3 #[.agg #[v1, v2, v3], .agg #[.int .i64 s, v]] w (TruePost w) := by
  have ht0 := Lib.hid ht
  have hA0 := Lib.hid hA
  obtain ⟨a, n, c, rfl⟩ := ht.shape
  obtain ⟨a1, c1, a2, c2, a3, c3, rfl, rfl, rfl, l1, l2, l3⟩ := hA.open
  clear ht hA
  have hB := BoxA.mk' w (.slice a1 A.ranks.length c1) (.slice a2 A.final.length c2) (.slice a3 A.to.length c3) 26
  have hm1 := (Mut.refl (fun _ => False) w).alloc (.cells #[.slice a1 A.ranks.length c1, .slice a2 A.final.length c2, .slice a3 A.to.length c3] 26)
  have hT := BoxT.mk' (w.alloc (.cells #[.slice a1 A.ranks.length c1, .slice a2 A.final.length c2, .slice a3 A.to.length c3] 26)) s (.slice a n c) 29
  have hB2 := hB.fix ((Mut.refl (fun _ => False) _).alloc (.cells #[.int .i64 s, .slice a n c] 29))
  have hm2 := hm1.alloc (.cells #[.int .i64 s, .slice a n c] 29)
  rw [show (w.alloc (.cells #[.slice a1 A.ranks.length c1, .slice a2 A.final.length c2, .slice a3 A.to.length c3] 26)).heap.size = w.heap.size + 1 from by simp] at hT
  have hfw := few_any _ _ _ _ A (hA0.out.fix hm2)
  rw [hf] at hfw
  replace hfw := Lib.hid hfw
  replace hB2 := Lib.hid hB2
  replace hT := Lib.hid hT
  replace hm2 := Lib.hid hm2
  clear hB hm1 hf
  go_enter Try.func3, Try.ntmps3
  go_wp2_with fail
  refine hfw.out.mono ?_
  rintro e w1 ⟨rfl, hm1⟩
  replace hm2 := Lib.hid (hm2.out.trans hm1)
  clear hm1
  go_wp2_with fail
  refine (known_any _).mono ?_
  rintro e w2 ⟨rfl, hm1⟩
  replace hm2 := Lib.hid (hm2.out.trans hm1)
  clear hm1
  go_wp2
  go_ret
  exact ⟨rfl, hm2.out⟩

set_option maxRecDepth 8000 in
set_option maxHeartbeats 4000000 in
theorem runlaw_tall (d : Nat) (A : Au) (s : Int) (v v1 v2 v3 : Value) (t : Tr) (w : World) (ht : TreeIn (fun _ => False) w d s v t) (hA : AuIn (fun _ => False) w v1 v2 v3 A) (hf : fewB A = true) (hb : treeB d t = false) :
    Calls Try.prog 3 #[.agg #[v1, v2, v3], .agg #[.int .i64 s, v]] w (TruePost w) := by
  have ht0 := Lib.hid ht
  have hA0 := Lib.hid hA
  obtain ⟨a, n, c, rfl⟩ := ht.shape
  obtain ⟨a1, c1, a2, c2, a3, c3, rfl, rfl, rfl, l1, l2, l3⟩ := hA.open
  clear ht hA
  have hB := BoxA.mk' w (.slice a1 A.ranks.length c1) (.slice a2 A.final.length c2) (.slice a3 A.to.length c3) 26
  have hm1 := (Mut.refl (fun _ => False) w).alloc (.cells #[.slice a1 A.ranks.length c1, .slice a2 A.final.length c2, .slice a3 A.to.length c3] 26)
  have hT := BoxT.mk' (w.alloc (.cells #[.slice a1 A.ranks.length c1, .slice a2 A.final.length c2, .slice a3 A.to.length c3] 26)) s (.slice a n c) 29
  have hB2 := hB.fix ((Mut.refl (fun _ => False) _).alloc (.cells #[.int .i64 s, .slice a n c] 29))
  have hm2 := hm1.alloc (.cells #[.int .i64 s, .slice a n c] 29)
  rw [show (w.alloc (.cells #[.slice a1 A.ranks.length c1, .slice a2 A.final.length c2, .slice a3 A.to.length c3] 26)).heap.size = w.heap.size + 1 from by simp] at hT
  have hfw := few_any _ _ _ _ A (hA0.out.fix hm2)
  rw [hf] at hfw
  have htr := Lib.hid (fun w1 (hm : Fix _ w1) => tree_any d s _ t w1 ((ht0.out.fix hm2).fix hm))
  rw [hb] at htr
  replace hfw := Lib.hid hfw
  replace hB2 := Lib.hid hB2
  replace hT := Lib.hid hT
  replace hm2 := Lib.hid hm2
  clear hB hm1 hf hb
  go_enter Try.func3, Try.ntmps3
  go_wp2_with fail
  refine hfw.out.mono ?_
  rintro e w1 ⟨rfl, hm1⟩
  obtain ⟨t0, t1⟩ := hT.out.fix hm1
  have htr1 := Lib.hid (htr.out _ hm1)
  replace hm2 := Lib.hid (hm2.out.trans hm1)
  clear hm1
  go_wp2_with fail
  refine htr1.out.mono ?_
  rintro e wb ⟨rfl, hm1⟩
  replace hm2 := Lib.hid (hm2.out.trans hm1)
  clear hm1
  go_wp2_with fail
  refine (known_any _).mono ?_
  rintro e w2 ⟨rfl, hm1⟩
  replace hm2 := Lib.hid (hm2.out.trans hm1)
  clear hm1
  go_wp2
  go_ret
  exact ⟨rfl, hm2.out⟩

theorem runlaw_walk (d : Nat) (A : Au) (s : Int) (v v1 v2 v3 : Value) (t : Tr) (w : World) (ht : TreeIn (fun _ => False) w d s v t) (hA : AuIn (fun _ => False) w v1 v2 v3 A) :
    Calls Try.prog 3 #[.agg #[v1, v2, v3], .agg #[.int .i64 s, v]] w fun e w' => e = .returned (.bool true) ∧ Below w.heap.size w w' := by
  have key : Calls Try.prog 3 #[.agg #[v1, v2, v3], .agg #[.int .i64 s, v]] w (TruePost w) := by
    cases hf : fewB A with
    | false => exact runlaw_many d A s v v1 v2 v3 t w ht hA hf
    | true =>
      cases hb : treeB d t with
      | false => exact runlaw_tall d A s v v1 v2 v3 t w ht hA hf hb
      | true => exact runlaw_big d A s v v1 v2 v3 t w ht hA hf hb
  exact key.mono fun e w' h => ⟨h.1, h.2.below⟩
end Go.Proofs.Ytdakoccbmeojhaa
