/- Contract of Permute. Condition: an automaton and a list in memory. -/
import Derived.Test.YtdakoccbmeojhaaWy
set_option linter.unusedSimpArgs false
set_option linter.unusedVariables false
set_option maxHeartbeats 400000
namespace Go.Proofs.Ytdakoccbmeojhaa
open Go Go.RowKit Go.PP

def isF (l : List Int) (j : Nat) (i : Nat) : Value := .bool (decide ((i : Int) ∈ l.take j))
theorem isF_next {l : List Int} {j sn : Nat} (h : l[j]? = some (sn : Int)) (i : Nat) : (if i = sn then (Value.bool true) else isF l j i) = isF l (j + 1) i := by
  obtain ⟨h2, h3⟩ := List.getElem?_eq_some_iff.1 h
  unfold isF
  rw [List.take_succ_eq_append_getElem h2, h3]
  by_cases e : i = sn
  · subst e
    rw [if_pos rfl]; simp
  · rw [if_neg e]
    have : ((i : Int) ∈ l.take j ++ [(sn : Int)]) ↔ (i : Int) ∈ l.take j := by simp; omega
    simp only [this]
theorem ixF_next' {l : List Int} {j sn : Nat} (hn : (sn : Int) ∉ l.take j) (h : l[j]? = some (sn : Int)) (i : Nat) : (if i = sn then (Value.int .i64 (j : Int)) else ixF l j i) = ixF l (j + 1) i := by
  obtain ⟨h2, h3⟩ := List.getElem?_eq_some_iff.1 h
  unfold ixF
  rw [List.take_succ_eq_append_getElem h2, h3]
  by_cases e : i = sn
  · subst e
    rw [if_pos rfl, if_pos (by simp)]
    congr 2
    have h4 : l = l.take j ++ l.drop j := (List.take_append_drop j l).symm
    rw [h4, List.idxOf_append, if_neg hn, List.drop_eq_getElem_cons h2, h3]
    simp
    omega
  · have : ((i : Int) ∈ l.take j ++ [(sn : Int)]) ↔ (i : Int) ∈ l.take j := by simp; omega
    rw [if_neg e]
    simp only [this]
theorem ixF_all (l : List Int) (n : Nat) (h : PermOk n l) (i : Nat) (hi : i < n) : ixF l l.length i = .int .i64 ((backL l).getD i 0) := by
  have h1 := pigeon_all n l h i hi
  have hl : i < l.length := by rw [h.len]; exact hi
  simp [ixF, backL, List.getD, hl, h1]

theorem rowIs_mut {S : Nat → Prop} {w w' : World} {b n : Nat} {t : TypeId} {f : Nat → Value} (h : w.rowIs b t n f) (m : Mut S w w') (hs : ¬ S b) : w'.rowIs b t n f := h.of_block (m.block b h.lt hs)

/-- What holds of the variables of Permute. -/
structure Pm (B : Nat) (v1 v2 v3 : Value) (w : World) : Prop where
  box : BoxA B v1 v2 v3 w
  res : BoxA (B + 1) (.slice none 0 0) (.slice none 0 0) (.slice none 0 0) w
  fr : ∀ i, w.frozen? ⟨B + 1, i, none⟩ = false
  size : B + 2 ≤ w.heap.size
theorem Pm.mut {S : Nat → Prop} {B : Nat} {v1 v2 v3 : Value} {w w' : World} (h : Pm B v1 v2 v3 w) (m : Mut S w w') (hs : ∀ k, S k → B + 2 ≤ k) : Pm B v1 v2 v3 w' := by
  have n0 : ¬ S B := fun e => by have := hs _ e; omega
  have n1 : ¬ S (B + 1) := fun e => by have := hs _ e; omega
  exact ⟨⟨m.cell h.box.c0 n0, m.cell h.box.c1 n0, m.cell h.box.c2 n0⟩, ⟨m.cell h.res.c0 n1, m.cell h.res.c1 n1, m.cell h.res.c2 n1⟩,
    fun i => (m.frozen (a := ⟨B + 1, i, none⟩) (by have := h.size; show B + 1 < _; omega) n1).trans (h.fr i), Nat.le_trans h.size m.size⟩

set_option maxRecDepth 8000 in
set_option maxHeartbeats 8000000 in
theorem permute_any (A : Au) (l : List Int) (v1 v2 v3 vl : Value) (w : World) (hA : AuIn (fun _ => False) w v1 v2 v3 A) (hl : Ints (fun _ => False) w vl l) :
    Calls Try.prog 28 #[.agg #[v1, v2, v3], vl] w (PairPost w (permuteE A l)) := by
  have hl0 := Lib.hid hl
  have hA0 := Lib.hid hA
  obtain ⟨xo, co, rfl, lo⟩ := hl.open'
  obtain ⟨a1, c1, a2, c2, a3, c3, rfl, rfl, rfl, -, -, -⟩ := hA.open
  clear hl hA
  obtain ⟨hBX, hRR, hRf, hcW, hzc⟩ := pm_start w (.slice a1 A.ranks.length c1) (.slice a2 A.final.length c2) (.slice a3 A.to.length c3) _ rfl
  have hP0 := Lib.hid (show Pm w.heap.size (.slice a1 A.ranks.length c1) (.slice a2 A.final.length c2) (.slice a3 A.to.length c3) _ from ⟨hBX, hRR, hRf, hzc⟩)
  replace hcW := Lib.hid hcW
  have hck := Lib.hid (check_any _ _ _ A _ (hA0.out.fix hcW.out))
  obtain ⟨k0, k1, k2⟩ := hBX
  clear hRR hRf hzc
  by_cases hk : chk A = 0
  rotate_left
  · rw [permuteE_bad hk]
    have hne : ((chk A : Int) != 0) = true := by simp; exact hk
    generalize chk A = E at *
    replace hk := Lib.hid hk
    go_enter Try.func28, Try.ntmps28
    go_wp2_with fail
    generalize (w.alloc (.cells #[.slice a1 A.ranks.length c1, .slice a2 A.final.length c2, .slice a3 A.to.length c3] 35)).alloc (.cells #[.slice none 0 0, .slice none 0 0, .slice none 0 0] 35) = wc at *
    refine hck.out.mono ?_
    rintro e w1 ⟨rfl, m1⟩
    obtain ⟨-, ⟨r0, r1, r2⟩, hff, -⟩ := hP0.out.mut m1 (by simp)
    have f0 := hff 0
    have f1 := hff 1
    have f2 := hff 2
    have hE := Lib.hid (pair_store (E := (A00, E)) (hcW.out.trans m1) (Nat.le_succ _) (au00 (fun b => b = w.heap.size + 1) w1))
    clear hff m1 hck k0 k1 k2
    go_wp2
    exact bodyPost_ret (v := .tuple #[.agg #[.slice none 0 0, .slice none 0 0, .slice none 0 0], .int .i64 E]) (by simp [results, Try.results28, go_sem, r0, r1, r2]) rfl hE.out
  rw [permuteE_ok hk]
  rw [hk] at hck
  have hok := Lib.hid (chk_ok hk)
  replace hk := Lib.hid hk
  by_cases hln : (l.length : Int) = A.final.length
  rotate_left
  · rw [permE_no (fun h => hln (by rw [h.len]))]
    have hne : ((l.length : Int) != A.final.length) = true := by simp; omega
    replace hln := Lib.hid hln
    go_enter Try.func28, Try.ntmps28
    go_wp2_with fail
    generalize (w.alloc (.cells #[.slice a1 A.ranks.length c1, .slice a2 A.final.length c2, .slice a3 A.to.length c3] 35)).alloc (.cells #[.slice none 0 0, .slice none 0 0, .slice none 0 0] 35) = wc at *
    refine hck.out.mono ?_
    rintro e w1 ⟨rfl, m1⟩
    obtain ⟨⟨b0, b1, b2⟩, ⟨r0, r1, r2⟩, hff, -⟩ := hP0.out.mut m1 (by simp)
    have f0 := hff 0
    have f1 := hff 1
    have f2 := hff 2
    have hE := Lib.hid (pair_store (E := (A00, 3)) (hcW.out.trans m1) (Nat.le_succ _) (au00 (fun b => b = w.heap.size + 1) w1))
    clear hff m1 hck k0 k1 k2
    go_wp2
    exact bodyPost_ret (v := .tuple #[.agg #[.slice none 0 0, .slice none 0 0, .slice none 0 0], .int .i64 3]) (by simp [results, Try.results28, go_sem, r0, r1, r2]) rfl hE.out
  have hne : ((l.length : Int) != A.final.length) = false := by simp; omega
  have hn5 : l.length ≤ 512 := by have := hok.out.hi; omega
  replace hln := Lib.hid hln
  have hmk := fun w => run_make_row' (P := Try.prog) 22 3 (.int .i64 0) 8 Try.underlying22 info3 rfl .i64 .i64 l.length (by omega) (by omega) w
  have hmk2 := fun w => run_make_row' (P := Try.prog) 23 4 (.bool false) 1 Try.underlying23 info4 rfl .i64 .i64 l.length (by omega) (by omega) w
  generalize hPE : permE A l = PE at *
  replace hPE := Lib.hid hPE
  go_enter Try.func28, Try.ntmps28
  go_wp2_with fail
  generalize (w.alloc (.cells #[.slice a1 A.ranks.length c1, .slice a2 A.final.length c2, .slice a3 A.to.length c3] 35)).alloc (.cells #[.slice none 0 0, .slice none 0 0, .slice none 0 0] 35) = wc at *
  refine hck.out.mono ?_
  rintro e w1 ⟨rfl, m1⟩
  have hP1 := Lib.hid (hP0.out.mut m1 (by simp))
  have hF1 := Lib.hid (hcW.out.trans m1)
  obtain ⟨⟨b0, b1, b2⟩, -, -, hz1⟩ := hP1.out
  have hz1' := hz1
  clear m1 hck k0 k1 k2 hP0 hcW
  have hro := World.rowIs_made w1 (.int .i64 0) l.length 3
  have hri := World.rowIs_made (w1.alloc (.cells (madeCells #[.int .i64 0] l.length) 3)) (.bool false) l.length 4
  rw [show (w1.alloc (.cells (madeCells #[.int .i64 0] l.length) 3)).heap.size = w1.heap.size + 1 from by simp] at hri
  have hro2 := hro.alloc (.cells (madeCells #[.bool false] l.length) 4)
  have hF3 := ((Mut.refl (fun _ => False) w1).alloc (.cells (madeCells #[.int .i64 0] l.length) 3)).alloc (.cells (madeCells #[.bool false] l.length) 4)
  have hro3 := Lib.hid (hro2.congr (g := ixF l 0) (fun i _ => by simp [ixF]))
  have hri3 := Lib.hid (hri.congr (g := isF l 0) (fun i _ => by simp [isF]))
  replace hF3 := Lib.hid hF3
  clear hro hri hro2
  go_wp2
  generalize (w1.alloc (.cells (madeCells #[.int .i64 0] l.length) 3)).alloc (.cells (madeCells #[.bool false] l.length) 4) = W5 at *
  generalize w1.heap.size = go at *
  go_loopw [32] (fun i wr => ∃ j : Nat, j ≤ l.length ∧ i = .int .i64 j ∧ Mut (fun b => b = go ∨ b = go + 1) W5 wr ∧ wr.rowIs go 3 l.length (ixF l j) ∧ wr.rowIs (go + 1) 4 l.length (isF l j) ∧ (l.take j).Nodup ∧ (∀ s ∈ l.take j, 0 ≤ s ∧ s < (A.final.length : Int))) (fun i _ => l.length - (intOf i).toNat)
  case atStart => exact ⟨0, by omega, rfl, Mut.refl _ _, hro3.out, hri3.out, by simp, by simp⟩
  case round =>
    clear hro3 hri3
    obtain ⟨j, hj, rfl, hm, hrow, hrw2, hnd, hrg⟩ := hrel
    have hfw := (hF1.out.trans hF3.out).trans' hm (fun i hi e => by omega)
    have hPr := Lib.hid ((hP1.out.mut hF3.out (by simp)).mut hm (by intro k e; omega))
    have hAr := Lib.hid (hA0.out.fix hfw)
    obtain ⟨⟨q0, q1, q2⟩, -, -, -⟩ := hPr.out
    by_cases hlt : j < l.length
    · obtain ⟨b6, off6, s, rfl, hs, hcs⟩ := hl0.out.slot hfw hlt
      have hsm := List.mem_of_getElem? hs
      have hst := Lib.hid (state_any _ _ _ A s wr hAr.out)
      by_cases hsr : 0 ≤ s ∧ s < (A.final.length : Int)
      rotate_left
      · have hsb : stB A.final.length s = false := by simp [stB]; omega
        rw [hsb] at hst
        have hbad : PE = (A00, 3) := by rw [← hPE.out]; exact permE_no (fun h => hsr (h.rng s hsm))
        replace hbad := Lib.hid hbad
        replace hfw := Lib.hid hfw
        replace hsr := Lib.hid hsr
        clear hm hrow hrw2 hnd hrg hs hsm hsb
        go_wp2_with fail
        refine hst.out.mono ?_
        rintro e w2 ⟨rfl, m2⟩
        obtain ⟨-, ⟨r0, r1, r2⟩, hff, -⟩ := hPr.out.mut m2 (by simp)
        have f0 := hff 0
        have f1 := hff 1
        have f2 := hff 2
        have hE := Lib.hid (pair_store (E := (A00, 3)) (hfw.out.trans m2) (Nat.le_succ _) (au00 (fun b => b = w.heap.size + 1) w2))
        clear hff m2 hst q0 q1 q2 hcs
        go_wp2
        exact bodyPost_ret (v := .tuple #[.agg #[.slice none 0 0, .slice none 0 0, .slice none 0 0], .int .i64 3]) (by simp [results, Try.results28, go_sem, r0, r1, r2]) rfl (by have h := hE.out; rw [hbad.out]; exact h)
      obtain ⟨sn, rfl⟩ := Int.eq_ofNat_of_zero_le hsr.1
      have hsb : stB A.final.length (sn : Int) = true := by simp [stB]; omega
      rw [hsb] at hst
      have hsl : sn < l.length := by have := hln.out; omega
      by_cases hin : (sn : Int) ∈ l.take j
      · have hnn : ¬ PermOk A.final.length l := fun h => by
          obtain ⟨k, hk1⟩ := List.getElem?_of_mem hin
          have hkj : k < j := by have := (List.getElem?_eq_some_iff.1 hk1).1; simp at this; omega
          rw [List.getElem?_take, if_pos hkj] at hk1
          have e1 := idx_at l k _ h.nd hk1
          have e2 := idx_at l j _ h.nd hs
          omega
        have hbad : PE = (A00, 3) := by rw [← hPE.out]; exact permE_no hnn
        have hcu := hrw2.cell (i := sn) hsl
        rw [show isF l j sn = .bool true by simp [isF, hin]] at hcu
        replace hbad := Lib.hid hbad
        replace hfw := Lib.hid hfw
        replace hcu := Lib.hid (fun w2 (m : Fix wr w2) => m.cell hcu (by simp))
        clear hm hrow hrw2 hnd hrg hs hsm hsb hin hnn
        go_wp2_with fail
        refine hst.out.mono ?_
        rintro e w2 ⟨rfl, m2⟩
        have hcu2 := hcu.out _ m2
        obtain ⟨-, ⟨r0, r1, r2⟩, hff, -⟩ := hPr.out.mut m2 (by simp)
        have f0 := hff 0
        have f1 := hff 1
        have f2 := hff 2
        have hE := Lib.hid (pair_store (E := (A00, 3)) (hfw.out.trans m2) (Nat.le_succ _) (au00 (fun b => b = w.heap.size + 1) w2))
        clear hff m2 hst q0 q1 q2 hcs hcu
        go_wp2
        exact bodyPost_ret (v := .tuple #[.agg #[.slice none 0 0, .slice none 0 0, .slice none 0 0], .int .i64 3]) (by simp [results, Try.results28, go_sem, r0, r1, r2]) rfl (by have h := hE.out; rw [hbad.out]; exact h)
      · have hnx := Lib.hid (show (l.take (j + 1)).Nodup ∧ ∀ s ∈ l.take (j + 1), 0 ≤ s ∧ s < (A.final.length : Int) by
          obtain ⟨h2, h3⟩ := List.getElem?_eq_some_iff.1 hs
          rw [List.take_succ_eq_append_getElem h2, h3]
          refine ⟨?_, fun s hs => ?_⟩
          · rw [List.nodup_append]
            refine ⟨hnd, by simp, fun a ha b hb e => ?_⟩
            simp at hb
            exact hin (by rw [← hb, ← e]; exact ha)
          · rcases List.mem_append.1 hs with h | h
            · exact hrg s h
            · simp at h; subst h; exact hsr)
        have hcu := hrw2.cell (i := sn) hsl
        rw [show isF l j sn = .bool false by simp [isF, hin]] at hcu
        have hrr := Lib.hid (fun w2 (m : Fix wr w2) => show w2.cell? ⟨go + 1, sn, none⟩ = some (.bool false) ∧ w2.cell? ⟨go, sn, none⟩ = some (ixF l j sn) ∧ w2.frozen? ⟨go, sn, none⟩ = false ∧ w2.frozen? ⟨go + 1, sn, none⟩ = false ∧
            (Mut (fun b => b = go ∨ b = go + 1) W5 ((w2.setCell ⟨go, sn, none⟩ (.int .i64 j)).setCell ⟨go + 1, sn, none⟩ (.bool true)) ∧ ((w2.setCell ⟨go, sn, none⟩ (.int .i64 j)).setCell ⟨go + 1, sn, none⟩ (.bool true)).rowIs go 3 l.length (ixF l (j + 1)) ∧ ((w2.setCell ⟨go, sn, none⟩ (.int .i64 j)).setCell ⟨go + 1, sn, none⟩ (.bool true)).rowIs (go + 1) 4 l.length (isF l (j + 1))) from by
          have x1 := rowIs_mut hrow m (by simp)
          have x2 := rowIs_mut hrw2 m (by simp)
          refine ⟨m.cell hcu (by simp), x1.cell hsl, x1.frozen _, x2.frozen _, ?_, ?_, ?_⟩
          · exact ((hm.trans (m.mono (fun _ _ e => e.elim))).setCell (p := ⟨go, sn, none⟩) (fun _ => .inl rfl) _).setCell (p := ⟨go + 1, sn, none⟩) (fun _ => .inr rfl) _
          · exact (((x1.set sn (.int .i64 j)).congr (fun i _ => ixF_next' hin hs i))).setOther (by simp) _
          · exact ((x2.setOther (a := ⟨go, sn, none⟩) (by simp) (.int .i64 j)).set sn (.bool true)).congr (fun i _ => isF_next hs i))
        clear hm hrow hrw2 hnd hrg hs hsm hsb hin hcu hfw
        go_wp2_with fail
        refine hst.out.mono ?_
        rintro e w2 ⟨rfl, m2⟩
        obtain ⟨z1, z2, z3, z4, hE⟩ := hrr.out _ m2
        replace hE := Lib.hid hE
        generalize ixF l j sn = u at *
        clear m2 hst q0 q1 q2 hcs hrr
        go_wp2
        go_roundw
        case rel => exact ⟨j + 1, by omega, by go_num, hE.out.1, hE.out.2.1, hE.out.2.2, hnx.out.1, hnx.out.2⟩
        case measure => simp [intOf]; omega
    · obtain rfl : j = l.length := by omega
      rw [List.take_of_length_le (Nat.le_refl _)] at hnd hrg
      have hpo : PermOk A.final.length l := ⟨by have := hln.out; omega, hnd, hrg⟩
      have hpe : PE = (keptA A (backL l), 0) := by rw [← hPE.out]; exact permE_ok hpo
      have hll : A.final.length = l.length := by have := hln.out; omega
      have hio : Ints (fun _ => False) wr (.slice (some ⟨go, 0, none⟩) l.length l.length) (backL l) :=
        ints_rowIs (hrow.congr (fun i hi => ixF_all l _ hpo i (by omega))) (backL_len l) (by omega)
      have hcall := Lib.hid (some_any A hok.out (backL l) (backL_shut hok.out hpo) _ _ _ _ wr hAr.out hio)
      replace hpe := Lib.hid hpe
      replace hfw := Lib.hid hfw
      generalize keptA A (backL l) = MA at *
      clear hm hrow hrw2 hnd hrg hpo hio hll
      go_wp2_with fail
      refine hcall.out.mono ?_
      rintro e w2 ⟨u1, u2, u3, rfl, hO, m2⟩
      obtain ⟨x1, y1, rfl⟩ := ownsRow_slice hO.r
      obtain ⟨x2, y2, rfl⟩ := ownsRow_slice hO.f
      obtain ⟨x3, y3, rfl⟩ : ∃ a c, u3 = .slice a MA.to.length c := by
        obtain ⟨vs, h⟩ := hO.t
        have h1 := ownsRow_slice h.own
        rw [h.len] at h1
        exact h1
      obtain ⟨-, ⟨r0, r1, r2⟩, hff, -⟩ := hPr.out.mut m2 (by simp)
      have f0 := hff 0
      have f1 := hff 1
      have f2 := hff 2
      have hE := Lib.hid (pair_store (E := (MA, 0)) (hfw.out.trans m2) (Nat.le_succ _) (hO.au (M := fun b => b = w.heap.size + 1) (fun b hb e => by have := hPr.out.size; omega)))
      clear hff m2 hO q0 q1 q2 hcall
      go_wp2
      exact bodyPost_ret (v := .tuple #[.agg #[.slice x1 MA.ranks.length y1, .slice x2 MA.final.length y2, .slice x3 MA.to.length y3], .int .i64 0]) (by simp [results, Try.results28, go_sem, r0, r1, r2]) rfl (by have h := hE.out; rw [hpe.out]; exact h)
end Go.Proofs.Ytdakoccbmeojhaa
