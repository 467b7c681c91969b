/- Contracts: the state of a tree, by the program and by the reference. Condition: a valid automaton, a fitting tree in memory. -/
import Derived.Test.YtdakoccbmeojhaaWf
set_option linter.unusedSimpArgs false
set_option linter.unusedVariables false
set_option maxHeartbeats 400000
namespace Go.Proofs.Ytdakoccbmeojhaa
open Go Go.RowKit Go.PP

theorem info3 : (Try.prog.info? 3).map (fun i => (i.zero, i.size, i.bytes)) = some (some (.int .i64 0), 1, 8) := by kernel_rfl

theorem map_take_snoc {α β : Type} (f : α → β) {l : List α} {j : Nat} {x : α} (h : l[j]? = some x) : (l.take (j + 1)).map f = (l.take j).map f ++ [f x] := by
  obtain ⟨hk, rfl⟩ := List.getElem?_eq_some_iff.1 h
  rw [List.take_succ_eq_append_getElem hk, List.map_append]; rfl

theorem Ints.of_owns {M : Nat → Prop} {w : World} {B : Nat} {e : TypeId} {v : Value} {xs : List Int} (h : w.ownsRow B e 1 v (xs.map (Value.int .i64)).length (xs.map (Value.int .i64))) (hM : ∀ b, B ≤ b → ¬ M b) : Ints M w v xs := SliceIn.of_owns h hM

set_option maxRecDepth 8000 in
set_option maxHeartbeats 8000000 in
theorem run_any (A : Au) (hok : AuOk A) (v1 v2 v3 : Value) : ∀ (d : Nat) (s : Int) (v : Value) (t : Tr) (w : World), TreeIn (fun _ => False) w d s v t → nodesE d A.ranks t = 0 → AuIn (fun _ => False) w v1 v2 v3 A →
    Calls Try.prog 42 #[.agg #[v1, v2, v3], .agg #[.int .i64 s, v]] w (RetPost w (.int .i64 (stateT A d t))) := by
  intro d
  induction d with
  | zero => intro s v t w h; exact h.elim
  | succ d ih =>
    intro s v t w ht hn hA
    obtain ⟨s', l⟩ := t
    have hng := Lib.hid (nodes_good hn)
    have hfit := Lib.hid (state_fits hok hn)
    have hl2 : l.length ≤ 2 := by obtain ⟨_, _, _, _, _, _, _, _, _, _, _, _, _, h⟩ := hfit.out.at hok; simpa using h
    clear hn
    have ht0 := Lib.hid ht
    have hA0 := Lib.hid hA
    obtain ⟨rfl, a, c, rfl, hl⟩ := ht.open
    obtain ⟨a1, c1, a2, c2, a3, c3, rfl, rfl, rfl, l1, l2, l3⟩ := hA.open
    clear ht hl hA
    replace ih := Lib.hid ih
    have hB := BoxA.mk' w (.slice a1 A.ranks.length c1) (.slice a2 A.final.length c2) (.slice a3 A.to.length c3) 35
    have hm1 := (Mut.refl (fun _ => False) w).alloc (.cells #[.slice a1 A.ranks.length c1, .slice a2 A.final.length c2, .slice a3 A.to.length c3] 35)
    have hT := BoxT.mk' (w.alloc (.cells #[.slice a1 A.ranks.length c1, .slice a2 A.final.length c2, .slice a3 A.to.length c3] 35)) s (.slice a l.length c) 39
    have hB2 := Lib.hid (hB.fix ((Mut.refl (fun _ => False) _).alloc (.cells #[.int .i64 s, .slice a l.length c] 39)))
    have hm2 := Lib.hid (hm1.alloc (.cells #[.int .i64 s, .slice a l.length c] 39))
    rw [show (w.alloc (.cells #[.slice a1 A.ranks.length c1, .slice a2 A.final.length c2, .slice a3 A.to.length c3] 35)).heap.size = w.heap.size + 1 from by simp] at hT
    replace hT := Lib.hid hT
    have hz := Lib.hid (show ((w.alloc (.cells #[.slice a1 A.ranks.length c1, .slice a2 A.final.length c2, .slice a3 A.to.length c3] 35)).alloc (.cells #[.int .i64 s, .slice a l.length c] 39)).heap.size = w.heap.size + 2 by simp)
    clear hB hm1
    rw [stateT]
    go_enter Try.func42, Try.ntmps42
    go_wp2
    generalize ((w.alloc (.cells #[.slice a1 A.ranks.length c1, .slice a2 A.final.length c2, .slice a3 A.to.length c3] 35)).alloc (.cells #[.int .i64 s, .slice a l.length c] 39)) = wb at *
    go_loopw [5, 11] (fun o i wr => ∃ j : Nat, j ≤ l.length ∧ i = .int .i64 j ∧ wr.ownsRow wb.heap.size 3 1 o (((l.take j).map (stateT A d)).map (Value.int .i64)).length (((l.take j).map (stateT A d)).map (Value.int .i64)) ∧ Fix wb wr) (fun _ i _ => l.length - (intOf i).toNat)
    case atStart => exact ⟨0, by omega, rfl, by simpa using World.ownsRow_nil _ _ _ _, Mut.refl _ _⟩
    case round =>
      obtain ⟨j, hj, rfl, hown, hmr⟩ := hrel
      obtain ⟨k0, k1, k2⟩ := hB2.out.fix hmr
      obtain ⟨t0, t1'⟩ := hT.out.fix hmr
      have hzr : w.heap.size + 2 ≤ wr.heap.size := by have := hmr.size; have := hz.out; omega
      by_cases hlt : j < l.length
      · obtain ⟨b, off, c', s1, v1', t1, hv, hx, q1, q2, h1⟩ := ht0.out.slot (hm2.out.trans hmr) hlt
        simp only [Value.slice.injEq, true_and] at hv
        obtain ⟨rfl, rfl⟩ := hv
        obtain ⟨ra, rn, rc, rfl⟩ := h1.shape
        have hsn := Lib.hid (map_take_snoc (stateT A d) hx)
        have hn1 := Lib.hid (hng.out.2.2.2 j t1 hx)
        have hmw := hm2.out.trans hmr
        have hA1 := Lib.hid (hA0.out.fix (hmw.alloc (.cells #[.int .i64 s1, .slice ra rn rc] 39)))
        replace h1 := Lib.hid (h1.fix (hmw.alloc (.cells #[.int .i64 s1, .slice ra rn rc] 39)))
        have hmr1 := Lib.hid (hmr.alloc (.cells #[.int .i64 s1, .slice ra rn rc] 39))
        have hown1 := Lib.hid (ownsRow_mut hown ((Mut.refl (fun _ => False) wr).alloc (.cells #[.int .i64 s1, .slice ra rn rc] 39)) (fun _ _ h => h))
        have hcl : (((l.take j).map (stateT A d)).map (Value.int .i64)).length ≤ 2 := by simp; omega
        obtain ⟨k0', k1', k2'⟩ := (BoxA.mk k0 k1 k2).fix ((Mut.refl (fun _ => False) wr).alloc (.cells #[.int .i64 s1, .slice ra rn rc] 39))
        clear hx hown hmr hmw
        generalize (l.take j).map (stateT A d) = xs at *
        go_wp2_with fail
        refine (ih.out s1 _ t1 _ h1.out hn1.out hA1.out).mono ?_
        rintro e w2 ⟨rfl, hm3⟩
        have hown2 := Lib.hid (ownsRow_mut hown1.out hm3 (fun _ _ h => h))
        have hmr2 := Lib.hid (hmr1.out.trans hm3)
        clear hm3 hown1 hmr1 h1 hA1
        generalize stateT A d t1 = y at *
        have hown3 := Lib.hid (ownsRow_mut hown2.out ((Mut.refl (fun _ => False) w2).alloc (.cells #[.int .i64 y] 3)) (fun _ _ h => h))
        have hzz := Lib.hid hmr2.out.size
        go_wp2_with (at_builtin; refine wpList_push rfl _ _ 22 rfl Try.underlying22 info3 rfl _ (xs.map (Value.int .i64)) (.int .i64 y) rfl hown3.out _ rfl (by exact cell_new1 _ _ _) rfl (by omega) (by decide) (by have := hzz.out; simp; omega) ?_; intro v5 w5 ho5 hg5 hb5)
        have hmr5 := Lib.hid ((hmr2.out.alloc (.cells #[.int .i64 y] 3)).grown hg5 (fun k hk h => by have := (hown3.out.lt k hk).1; omega))
        have ho6 : w5.ownsRow wb.heap.size 3 1 v5 ((xs ++ [y]).map (Value.int .i64)).length ((xs ++ [y]).map (Value.int .i64)) := by simpa using ho5
        replace ho6 := Lib.hid ho6
        clear ho5 hg5 hb5 hown3 hown2 hmr2
        go_roundw
        case rel => exact ⟨j + 1, by omega, by go_num, by rw [hsn.out]; exact ho6.out, hmr5.out⟩
        case measure => simp [intOf]; omega
      · obtain rfl : j = l.length := by omega
        rw [List.take_length] at hown
        have hi := Lib.hid (Ints.of_owns (M := fun _ => False) hown (fun _ _ => id))
        have hA1 := Lib.hid (hA0.out.fix (hm2.out.trans hmr))
        replace hmr := Lib.hid (hm2.out.trans hmr)
        obtain ⟨ia, ic, rfl, -⟩ := hi.out.open'
        clear hown
        generalize l.map (stateT A d) = xs at *
        go_wp2_with fail
        refine (at_any _ _ _ _ A s _ _ hA1.out hok hi.out hfit.out).mono ?_
        rintro e w6 ⟨rfl, hm6⟩
        replace hmr := Lib.hid (hmr.out.trans hm6)
        clear hm6
        generalize atI A s xs = y at *
        go_wp2
        go_ret
        exact ⟨rfl, hmr.out⟩
structure StS (wb : World) (v : Value) (xs : List Int) (w : World) : Prop where
  fix : Fix wb w
  own : w.ownsRow wb.heap.size 3 1 v (xs.map (Value.int .i64)).length (xs.map (Value.int .i64))

set_option maxRecDepth 8000 in
set_option maxHeartbeats 8000000 in
theorem rstate_any (A : Au) (hok : AuOk A) (v1 v2 v3 : Value) : ∀ (d : Nat) (s : Int) (v : Value) (t : Tr) (w : World), TreeIn (fun _ => False) w d s v t → nodesE d A.ranks t = 0 → AuIn (fun _ => False) w v1 v2 v3 A →
    Calls Try.prog 44 #[.agg #[v1, v2, v3], .agg #[.int .i64 s, v]] w (RetPost w (.int .i64 (stateT A d t))) := by
  intro d
  induction d with
  | zero => intro s v t w h; exact h.elim
  | succ d ih =>
    intro s v t w ht hn hA
    obtain ⟨s', l⟩ := t
    have hng := Lib.hid (nodes_good hn)
    have hfit := Lib.hid (state_fits hok hn)
    have hl2 : l.length ≤ 2 := by obtain ⟨_, _, _, _, _, _, _, _, _, _, _, _, _, h⟩ := hfit.out.at hok; simpa using h
    clear hn
    have ht0 := Lib.hid ht
    have hA0 := Lib.hid hA
    obtain ⟨rfl, a, c, rfl, hl⟩ := ht.open
    obtain ⟨a1, c1, a2, c2, a3, c3, rfl, rfl, rfl, l1, l2, l3⟩ := hA.open
    clear ht hl hA
    replace ih := Lib.hid ih
    have hB := BoxA.mk' w (.slice a1 A.ranks.length c1) (.slice a2 A.final.length c2) (.slice a3 A.to.length c3) 26
    have hm1 := (Mut.refl (fun _ => False) w).alloc (.cells #[.slice a1 A.ranks.length c1, .slice a2 A.final.length c2, .slice a3 A.to.length c3] 26)
    have hT := BoxT.mk' (w.alloc (.cells #[.slice a1 A.ranks.length c1, .slice a2 A.final.length c2, .slice a3 A.to.length c3] 26)) s (.slice a l.length c) 29
    have hB2 := Lib.hid (hB.fix ((Mut.refl (fun _ => False) _).alloc (.cells #[.int .i64 s, .slice a l.length c] 29)))
    have hm2 := Lib.hid (hm1.alloc (.cells #[.int .i64 s, .slice a l.length c] 29))
    rw [show (w.alloc (.cells #[.slice a1 A.ranks.length c1, .slice a2 A.final.length c2, .slice a3 A.to.length c3] 26)).heap.size = w.heap.size + 1 from by simp] at hT
    replace hT := Lib.hid hT
    have hz := Lib.hid (show ((w.alloc (.cells #[.slice a1 A.ranks.length c1, .slice a2 A.final.length c2, .slice a3 A.to.length c3] 26)).alloc (.cells #[.int .i64 s, .slice a l.length c] 29)).heap.size = w.heap.size + 2 by simp)
    clear hB hm1
    rw [stateT]
    go_enter Try.func44, Try.ntmps44
    go_wp2
    generalize ((w.alloc (.cells #[.slice a1 A.ranks.length c1, .slice a2 A.final.length c2, .slice a3 A.to.length c3] 26)).alloc (.cells #[.int .i64 s, .slice a l.length c] 29)) = wb at *
    go_loopw [5, 6] (fun o i wr => ∃ j : Nat, j ≤ l.length ∧ i = .int .i64 j ∧ wr.ownsRow wb.heap.size 3 1 o (((l.take j).map (stateT A d)).map (Value.int .i64)).length (((l.take j).map (stateT A d)).map (Value.int .i64)) ∧ Fix wb wr) (fun _ i _ => l.length - (intOf i).toNat)
    case atStart => exact ⟨0, by omega, rfl, by simpa using World.ownsRow_nil _ _ _ _, Mut.refl _ _⟩
    case round =>
      obtain ⟨j, hj, rfl, hown, hmr⟩ := hrel
      obtain ⟨k0, k1, k2⟩ := hB2.out.fix hmr
      obtain ⟨t0, t1'⟩ := hT.out.fix hmr
      have hzr : w.heap.size + 2 ≤ wr.heap.size := by have := hmr.size; have := hz.out; omega
      by_cases hlt : j < l.length
      · obtain ⟨b, off, c', s1, v1', t1, hv, hx, q1, q2, h1⟩ := ht0.out.slot (hm2.out.trans hmr) hlt
        simp only [Value.slice.injEq, true_and] at hv
        obtain ⟨rfl, rfl⟩ := hv
        obtain ⟨ra, rn, rc, rfl⟩ := h1.shape
        have qb1 : wb.cell? ⟨b, off + j * 2, none⟩ = some (.int .i64 s1) := by
          obtain ⟨b', off', c'', s1', v1'', t1', hv', hx', e1, e2, -⟩ := ht0.out.slot hm2.out hlt
          simp only [Value.slice.injEq, Option.some.injEq, Addr.mk.injEq, and_true, true_and] at hv'
          obtain ⟨⟨rfl, rfl⟩, -⟩ := hv'
          have := hmr.cell e1 (by simp)
          rw [q1] at this; rw [Option.some.inj this]; exact e1
        have qb2 : wb.cell? ⟨b, off + j * 2 + 1, none⟩ = some (.slice ra rn rc) := by
          obtain ⟨b', off', c'', s1', v1'', t1', hv', hx', e1, e2, -⟩ := ht0.out.slot hm2.out hlt
          simp only [Value.slice.injEq, Option.some.injEq, Addr.mk.injEq, and_true, true_and] at hv'
          obtain ⟨⟨rfl, rfl⟩, -⟩ := hv'
          have := hmr.cell e2 (by simp)
          rw [q2] at this; rw [Option.some.inj this]; exact e2
        have hsn := Lib.hid (map_take_snoc (stateT A d) hx)
        have hn1 := Lib.hid (hng.out.2.2.2 j t1 hx)
        have hS := Lib.hid (show StS wb u5 ((l.take j).map (stateT A d)) wr.drew from ⟨hmr.drew, ownsRow_mut hown ((Mut.refl (fun _ => False) wr).drew) (fun _ _ h => h)⟩)
        have hA1 := Lib.hid (hA0.out.fix (hm2.out.trans hS.out.fix))
        replace h1 := Lib.hid (h1.fix (hm2.out.trans hS.out.fix))
        have hcl : (((l.take j).map (stateT A d)).map (Value.int .i64)).length ≤ 2 := by simp; omega
        have hne := Cls.ne hS.out
        obtain ⟨p0, p1, p2⟩ := hB2.out
        obtain ⟨p3, p4⟩ := hT.out
        have hq1 := hmr
        clear hx hown
        generalize (l.take j).map (stateT A d) = xs at *
        go_wp2
        refine wp_plan (StS wb u5 xs) [0, 1, 2, 3, 4, 5, 6, 7, 8] [([0, 1, 2, 3, 4, 5, 6], some 7), ([], some 8)] [9, 10] (by kernel_rfl) (by kernel_rfl) ?_
        refine ⟨Of.mk hS.out, ?_⟩
        simp only [wpPlan, pickOps_cons, pickOps_nil, List.getElem?_cons_zero, List.getElem?_cons_succ, pickOp_some]
        have s0 := fun x : Cls (StS wb u5 xs) => x.ok.fix.cell p0 (by simp)
        have s1' := fun x : Cls (StS wb u5 xs) => x.ok.fix.cell p1 (by simp)
        have s2 := fun x : Cls (StS wb u5 xs) => x.ok.fix.cell p2 (by simp)
        have s4 := fun x : Cls (StS wb u5 xs) => x.ok.fix.cell p4 (by simp)
        have s5 := fun x : Cls (StS wb u5 xs) => x.ok.fix.cell qb1 (by simp)
        have s6 := fun x : Cls (StS wb u5 xs) => x.ok.fix.cell qb2 (by simp)
        repeat (go_big_quiet_step (fail))
        refine wpQuiet_nil ?_
        clear s0 s1' s2 s4 s5 s6
        go_wp2_with fail
        refine (ih.out s1 _ t1 _ h1.out hn1.out hA1.out).mono ?_
        rintro e w2 ⟨rfl, hm3⟩
        have hS2 := Lib.hid (show StS wb u5 xs w2 from ⟨hS.out.fix.trans hm3, ownsRow_mut hS.out.own hm3 (fun _ _ h => h)⟩)
        clear hm3 hS h1 hA1 hmr hq1
        generalize stateT A d t1 = y at *
        go_wp2
        refine ⟨fun _ => Of.mk hS2.out, Of.mk hS2.out, wpQuiet_nil ?_⟩
        have hS3 := Lib.hid (show StS wb u5 xs (w2.alloc (.cells #[.int .i64 y] 3)) from ⟨hS2.out.fix.alloc _, ownsRow_mut hS2.out.own ((Mut.refl (fun _ => False) w2).alloc (.cells #[.int .i64 y] 3)) (fun _ _ h => h)⟩)
        go_wp2
        refine ⟨fun _ => Of.mk hS3.out, ?_⟩
        have hzz := Lib.hid hS2.out.fix.size
        go_wp2_with (at_builtin; refine wpList_push rfl _ _ 22 rfl Try.underlying22 info3 rfl _ (xs.map (Value.int .i64)) (.int .i64 y) rfl hS3.out.own _ rfl (by exact cell_new1 _ _ _) rfl (by omega) (by decide) (by have := hzz.out; simp; omega) ?_; intro v5 w5 ho5 hg5 hb5)
        have hmr5 := Lib.hid (hS3.out.fix.grown hg5 (fun k hk h => by have := (hS3.out.own.lt k hk).1; omega))
        have ho6 : w5.ownsRow wb.heap.size 3 1 v5 ((xs ++ [y]).map (Value.int .i64)).length ((xs ++ [y]).map (Value.int .i64)) := by simpa using ho5
        replace ho6 := Lib.hid ho6
        clear ho5 hg5 hb5 hS3 hS2
        refine NoPanic.normal ?_
        go_wp2
        go_roundw
        case rel => exact ⟨j + 1, by omega, by go_num, by rw [hsn.out]; exact ho6.out, hmr5.out⟩
        case measure => simp [intOf]; omega
      · obtain rfl : j = l.length := by omega
        rw [List.take_length] at hown
        have hi := Lib.hid (Ints.of_owns (M := fun _ => False) hown (fun _ _ => id))
        have hA1 := Lib.hid (hA0.out.fix (hm2.out.trans hmr))
        replace hmr := Lib.hid (hm2.out.trans hmr)
        obtain ⟨ia, ic, rfl, -⟩ := hi.out.open'
        clear hown
        generalize l.map (stateT A d) = xs at *
        go_wp2_with fail
        refine (rstep_any _ _ _ _ A s xs _ hA1.out hok hi.out).mono ?_
        unfold StepPost
        rw [stepE_fits hfit.out]
        rintro e w6 ⟨rfl, hm6⟩
        replace hmr := Lib.hid (hmr.out.trans hm6)
        clear hm6
        generalize atI A s xs = y at *
        go_wp2
        go_ret
        exact ⟨rfl, hmr.out⟩
end Go.Proofs.Ytdakoccbmeojhaa
