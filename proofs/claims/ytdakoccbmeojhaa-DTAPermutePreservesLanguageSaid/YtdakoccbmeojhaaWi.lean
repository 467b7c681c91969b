/- Contract of Own: a tree is copied. Condition: a tree in memory. -/
import Derived.Test.YtdakoccbmeojhaaWh
set_option linter.unusedSimpArgs false
set_option linter.unusedVariables false
set_option maxHeartbeats 400000
namespace Go.Proofs.Ytdakoccbmeojhaa
open Go Go.RowKit Go.PP

theorem ownsRow_slice {w : World} {B : Nat} {e : TypeId} {sz : Nat} {v : Value} {n : Nat} {cs : List Value} (h : w.ownsRow B e sz v n cs) : ∃ a c, v = .slice a n c := by
  rcases h.2 with ⟨rfl, hl⟩ | ⟨g, cap, cur, rfl, _⟩
  · exact ⟨none, 0, by rw [hl]⟩
  · exact ⟨_, _, rfl⟩

theorem info39 : (Try.prog.info? 39).map (fun i => (i.zero, i.size, i.bytes)) = some (some (.agg #[.int .i64 0, .slice none 0 0]), 2, 32) := by kernel_rfl

/-- What holds inside a round of Own: the input is as it was, the result so far is in its variable. -/
structure OwnS (s : Int) (wb : World) (b2 d : Nat) (v : Value) (ps : List (Int × Value)) (ts : List Tr) (w : World) : Prop where
  fix : Mut (fun b => b = b2) wb w
  out : w.cell? ⟨b2, 1, none⟩ = some v
  fr : w.frozen? ⟨b2, 1, none⟩ = false
  hd : w.cell? ⟨b2, 0, none⟩ = some (.int .i64 s)
  rows : RowsT (fun b => b < wb.heap.size) wb.heap.size 39 w d v ps ts

def OwnPost (w : World) (d : Nat) (s : Int) (t : Tr) (e : Ending) (w' : World) : Prop :=
  ∃ v, e = .returned (.agg #[.int .i64 s, v]) ∧ TreeIn (fun b => b < w.heap.size) w' d s v t ∧ Fix w w'

set_option maxRecDepth 8000 in
set_option maxHeartbeats 8000000 in
theorem own_any : ∀ (d : Nat) (s : Int) (v : Value) (t : Tr) (w : World), TreeIn (fun _ => False) w d s v t → Calls Try.prog 17 #[.agg #[.int .i64 s, v]] w (OwnPost w d s t) := by
  intro d
  induction d with
  | zero => intro s v t w h; exact h.elim
  | succ d ih =>
    intro s v t w ht
    obtain ⟨s', l⟩ := t
    have ht0 := Lib.hid ht
    obtain ⟨rfl, a, c, rfl, hl⟩ := ht.open
    have hll : l.length ≤ 9223372036854775807 := by omega
    clear ht
    replace ih := Lib.hid ih
    have hm1 := (((Mut.refl (fun _ => False) w).alloc (.cells #[.int .i64 s, .slice a l.length c] 29)).alloc (.cells #[.int .i64 0, .slice none 0 0] 39)).alloc (.cells #[.int .i64 s, .slice none 0 0] 39)
    have hT := Lib.hid (((BoxT.mk' w s (.slice a l.length c) 29).fix ((Mut.refl (fun _ => False) _).alloc (.cells #[.int .i64 0, .slice none 0 0] 39))).fix ((Mut.refl (fun _ => False) _).alloc (.cells #[.int .i64 s, .slice none 0 0] 39)))
    have hO := BoxT.mk' ((w.alloc (.cells #[.int .i64 s, .slice a l.length c] 29)).alloc (.cells #[.int .i64 0, .slice none 0 0] 39)) s (.slice none 0 0) 39
    have hfr : ((((w.alloc (.cells #[.int .i64 s, .slice a l.length c] 29)).alloc (.cells #[.int .i64 0, .slice none 0 0] 39)).alloc (.cells #[.int .i64 s, .slice none 0 0] 39)).frozen? ⟨w.heap.size + 1 + 1, 1, none⟩ = false) := by go_simp
    rw [show ((w.alloc (.cells #[.int .i64 s, .slice a l.length c] 29)).alloc (.cells #[.int .i64 0, .slice none 0 0] 39)).heap.size = w.heap.size + 1 + 1 from by simp] at hO
    have hfr1 : ((((w.alloc (.cells #[.int .i64 s, .slice a l.length c] 29)).alloc (.cells #[.int .i64 0, .slice none 0 0] 39)).alloc (.cells #[.int .i64 s, .slice none 0 0] 39)).frozen? ⟨w.heap.size + 1, 0, none⟩ = false) := by go_simp
    have hfr2 : ((((w.alloc (.cells #[.int .i64 s, .slice a l.length c] 29)).alloc (.cells #[.int .i64 0, .slice none 0 0] 39)).alloc (.cells #[.int .i64 s, .slice none 0 0] 39)).frozen? ⟨w.heap.size + 1, 1, none⟩ = false) := by go_simp
    have hR := Lib.hid ((((BoxT.mk' (w.alloc (.cells #[.int .i64 s, .slice a l.length c] 29)) 0 (.slice none 0 0) 39)).fix ((Mut.refl (fun _ => False) _).alloc (.cells #[.int .i64 s, .slice none 0 0] 39))))
    rw [show (w.alloc (.cells #[.int .i64 s, .slice a l.length c] 29)).heap.size = w.heap.size + 1 from by simp] at hR
    have hz : ((((w.alloc (.cells #[.int .i64 s, .slice a l.length c] 29)).alloc (.cells #[.int .i64 0, .slice none 0 0] 39)).alloc (.cells #[.int .i64 s, .slice none 0 0] 39)).heap.size = w.heap.size + 3) := by simp
    replace hO := Lib.hid hO
    replace hm1 := Lib.hid hm1
    replace hfr := Lib.hid hfr
    replace hfr1 := Lib.hid hfr1
    replace hfr2 := Lib.hid hfr2
    replace hz := Lib.hid hz
    go_enter Try.func17, Try.ntmps17
    go_wp2
    generalize ((w.alloc (.cells #[.int .i64 s, .slice a l.length c] 29)).alloc (.cells #[.int .i64 0, .slice none 0 0] 39)).alloc (.cells #[.int .i64 s, .slice none 0 0] 39) = wb at *
    go_loopw [4] (fun i wr => ∃ (j : Nat) (v : Value) (ps : List (Int × Value)), j ≤ l.length ∧ i = .int .i64 j ∧ OwnS s wb (w.heap.size + 1 + 1) d v ps (l.take j) wr) (fun i _ => l.length - (intOf i).toNat)
    case atStart => exact ⟨0, _, [], by omega, rfl, ⟨Mut.refl _ _, hO.out.c1, hfr.out, hO.out.c0, RowsT.nil _ _ _ _ _⟩⟩
    case round =>
      obtain ⟨j, v, ps, hj, rfl, hS0⟩ := hrel
      have hz1 : wb.heap.size ≤ w.heap.size + 3 := by rw [hz.out]; omega
      have hz2 : w.heap.size + 3 ≤ wb.heap.size := by rw [hz.out]; omega
      have hzr := hS0.fix.size
      have hT0 := hT.out.c1
      have hT1 : wr.cell? ⟨w.heap.size, 1, none⟩ = some (.slice a l.length c) := hS0.fix.cell hT0 (by show ¬ w.heap.size = w.heap.size + 1 + 1; omega)
      by_cases hlt : j < l.length
      · obtain ⟨b, off, c', s1, v1, t1, hv, hx, q1, q2, h1⟩ := ht0.out.slot hm1.out hlt
        simp only [Value.slice.injEq, true_and] at hv
        obtain ⟨rfl, rfl⟩ := hv
        obtain ⟨ra, rn, rc, rfl⟩ := h1.shape
        have hblt : b < w.heap.size := by
          obtain ⟨b', off', c'', s1', v1'', t1', hv', hx', e1, e2, -⟩ := ht0.out.slot (Mut.refl _ w) hlt
          simp only [Value.slice.injEq, Option.some.injEq, Addr.mk.injEq, and_true, true_and] at hv'
          rw [hv'.1.1]
          exact World.block_lt_of_cell? w _ e1
        have hsn := Lib.hid (show l.take (j + 1) = l.take j ++ [t1] by
          obtain ⟨hk, hh⟩ := List.getElem?_eq_some_iff.1 hx
          rw [List.take_succ_eq_append_getElem hk, hh])
        have hpl : ps.length < l.length := by rw [hS0.rows.len]; simp; omega
        have hS := Lib.hid (show OwnS s wb (w.heap.size + 1 + 1) d v ps (l.take j) wr.drew from ⟨hS0.fix.drew, hS0.out, hS0.fr, hS0.hd, hS0.rows.mut ((Mut.refl (fun _ => False) wr).drew) (by simp) (by simp)⟩)
        have hne := Cls.ne hS.out
        have hfix := Lib.hid (hm1.out.trans' hS0.fix (fun i hi e => by omega))
        have h2 := Lib.hid ((h1.fix (Mut.refl _ _)).mut (S := fun _ => False) (Mut.refl _ w) (by simp))
        clear hx h1 hS0
        go_wp2
        refine wp_plan (OwnS s wb (w.heap.size + 1 + 1) d v ps (l.take j)) [0, 1, 2, 3, 4, 5, 6, 7, 8] [([0, 1, 2, 3, 4, 5, 6], some 7), ([], some 8)] [9, 10, 11] (by kernel_rfl) (by kernel_rfl) ?_
        refine ⟨Of.mk hS.out, ?_⟩
        simp only [wpPlan, pickOps_cons, pickOps_nil, List.getElem?_cons_zero, List.getElem?_cons_succ, pickOp_some]
        have s0 := fun x : Cls (OwnS s wb (w.heap.size + 1 + 1) d v ps (l.take j)) => x.ok.out
        have s1' := fun x : Cls (OwnS s wb (w.heap.size + 1 + 1) d v ps (l.take j)) => x.ok.fix.cell hT0 (by show ¬ w.heap.size = w.heap.size + 1 + 1; omega)
        have s2 := fun x : Cls (OwnS s wb (w.heap.size + 1 + 1) d v ps (l.take j)) => x.ok.fix.cell q1 (by show ¬ b = w.heap.size + 1 + 1; omega)
        have s3 := fun x : Cls (OwnS s wb (w.heap.size + 1 + 1) d v ps (l.take j)) => x.ok.fix.cell q2 (by show ¬ b = w.heap.size + 1 + 1; omega)
        repeat (go_big_quiet_step (fail))
        refine wpQuiet_nil ?_
        clear s0 s1' s2 s3
        go_wp2_with fail
        refine (ih.out s1 _ t1 _ (h2.out.fix (hfix.out.drew))).mono ?_
        rintro e w2 ⟨v', rfl, hv', hm3⟩
        obtain ⟨ra', rn', rc', rfl⟩ := hv'.shape
        have hS2 := Lib.hid (show OwnS s wb (w.heap.size + 1 + 1) d v ps (l.take j) w2 from ⟨hS.out.fix.trans (hm3.mono (fun _ _ e => e.elim)), hm3.cell hS.out.out (by simp), (hm3.frozen (World.block_lt_of_cell? _ _ hS.out.out) (by simp)).trans hS.out.fr, hm3.cell hS.out.hd (by simp), hS.out.rows.fix hm3⟩)
        have hv2 := Lib.hid (show TreeIn (fun b => b < wb.heap.size ∨ v.ownBlock = some b) w2 d s1 (.slice ra' rn' rc') t1 from hv'.mono (fun b hb e => by
          rcases e with e | e
          · exact Nat.lt_of_lt_of_le e hS.out.fix.size
          · exact (hS.out.rows.own.lt b e).2))
        clear hm3 hv' hS
        go_wp2
        refine ⟨fun _ => Of.mk hS2.out, Of.mk hS2.out, wpQuiet_nil ?_⟩
        have hS3 := Lib.hid (show OwnS s wb (w.heap.size + 1 + 1) d v ps (l.take j) (w2.alloc (.cells #[.int .i64 s1, .slice ra' rn' rc'] 39)) from ⟨hS2.out.fix.alloc _, ((Mut.refl (fun _ => False) w2).alloc _).cell hS2.out.out (by simp), (((Mut.refl (fun _ => False) w2).alloc _).frozen (World.block_lt_of_cell? _ _ hS2.out.out) (by simp)).trans hS2.out.fr, ((Mut.refl (fun _ => False) w2).alloc _).cell hS2.out.hd (by simp), hS2.out.rows.fix ((Mut.refl (fun _ => False) w2).alloc _)⟩)
        have hv3 := Lib.hid (hv2.out.fix ((Mut.refl (fun _ => False) w2).alloc (.cells #[.int .i64 s1, .slice ra' rn' rc'] 39)))
        have hbx := Lib.hid (BoxT.mk' w2 s1 (.slice ra' rn' rc') 39)
        have hzz := Lib.hid hS2.out.fix.size
        clear hv2
        go_wp2
        refine ⟨fun _ => Of.mk hS3.out, ?_⟩
        have hkeep := Lib.hid (fun w5 (hg : (w2.alloc (.cells #[.int .i64 s1, .slice ra' rn' rc'] 39)).grownBy w5 v.ownBlock) => show w5.cell? ⟨w.heap.size + 1 + 1, 1, none⟩ = some v ∧ w5.frozen? ⟨w.heap.size + 1 + 1, 1, none⟩ = false ∧ w5.cell? ⟨w.heap.size + 1 + 1, 0, none⟩ = some (.int .i64 s) from by
          have hM := (Mut.refl (fun k => v.ownBlock = some k) _).grown hg (fun k hk _ => hk)
          have hnb : ¬ v.ownBlock = some (w.heap.size + 1 + 1) := fun e => by have := (hS3.out.rows.own.lt _ e).1; omega
          exact ⟨hM.cell hS3.out.out hnb, (hM.frozen (World.block_lt_of_cell? _ _ hS3.out.out) hnb).trans hS3.out.fr, hM.cell hS3.out.hd hnb⟩)
        go_wp2_with (at_builtin; refine wpList_push2 rfl _ _ 37 rfl Try.underlying37 info39 rfl v ps.length (childCells ps) (.int .i64 s1) (.slice ra' rn' rc') rfl hS3.out.rows.own _ rfl (by exact hbx.out.c0) (by exact hbx.out.c1) rfl rfl (by omega) (by decide) (by decide) (by have := hzz.out; simp; omega) ?_; intro v5 w5 ho5 hg5 hb5; obtain ⟨a5, c5, rfl⟩ := ownsRow_slice ho5; obtain ⟨e1, e2, e3⟩ := hkeep.out w5 hg5)
        have hE := Lib.hid (show OwnS s wb (w.heap.size + 1 + 1) d (.slice a5 (ps.length + 1) c5) (ps ++ [(s1, .slice ra' rn' rc')]) (l.take j ++ [t1]) (w5.setCell ⟨w.heap.size + 1 + 1, 1, none⟩ (.slice a5 (ps.length + 1) c5)) from by
          have hrw := hS3.out.rows.push (s := s1) hv3.out (by rw [List.length_append, childCells_append]; exact ho5) hg5 hb5
          have hM := (Mut.refl (fun b => b = w.heap.size + 1 + 1) w5).setCell (p := ⟨w.heap.size + 1 + 1, 1, none⟩) (fun _ => rfl) (.slice a5 (ps.length + 1) c5)
          refine ⟨(hS3.out.fix.grown hg5 (fun k hk h => by have := (hS3.out.rows.own.lt k hk).1; omega)).trans hM, World.cell?_setCell_same _ _ _ e1, by simpa using e2, by rw [World.cell?_setCell_other _ _ _ _ (by simp)]; exact e3, hrw.mut hM (fun b _ e => by show b < wb.heap.size; omega) (fun k hk e => ?_)⟩
          have := (hrw.own.lt k hk).1
          omega)
        clear ho5 hg5 hb5 hS3 hS2 hv3 hbx hkeep e1 e2 e3
        refine NoPanic.normal ?_
        go_wp2
        go_roundw
        case rel => exact ⟨j + 1, _, _, by omega, by go_num, by rw [hsn.out]; exact hE.out⟩
        case measure => simp [intOf]; omega
      · obtain rfl : j = l.length := by omega
        obtain ⟨oa, oc, rfl⟩ := ownsRow_slice hS0.rows.own
        have ho1 := hS0.out
        have ho0 := hS0.hd
        have hr0 := hS0.fix.cell hR.out.c0 (by show ¬ w.heap.size + 1 = w.heap.size + 1 + 1; omega)
        have hr1 := hS0.fix.cell hR.out.c1 (by show ¬ w.heap.size + 1 = w.heap.size + 1 + 1; omega)
        have hf0 : wr.frozen? ⟨w.heap.size + 1, 0, none⟩ = false := (hS0.fix.frozen (by show w.heap.size + 1 < wb.heap.size; omega) (by show ¬ w.heap.size + 1 = w.heap.size + 1 + 1; omega)).trans hfr1.out
        have hf1 : wr.frozen? ⟨w.heap.size + 1, 1, none⟩ = false := (hS0.fix.frozen (by show w.heap.size + 1 < wb.heap.size; omega) (by show ¬ w.heap.size + 1 = w.heap.size + 1 + 1; omega)).trans hfr2.out
        have hE : OwnPost w (d + 1) s (.node s l) (.returned (.agg #[.int .i64 s, .slice oa ps.length oc])) ((wr.setCell ⟨w.heap.size + 1, 0, none⟩ (.int .i64 s)).setCell ⟨w.heap.size + 1, 1, none⟩ (.slice oa ps.length oc)) := by
          have hrows := hS0.rows
          rw [List.take_length] at hrows
          have htr := hrows.tree (M := fun b => b < wb.heap.size) (fun b hb e => by omega) hl s
          have hM := ((Mut.refl (fun b => b = w.heap.size + 1) wr).setCell (p := ⟨w.heap.size + 1, 0, none⟩) (fun _ => rfl) (.int .i64 s)).setCell (p := ⟨w.heap.size + 1, 1, none⟩) (fun _ => rfl) (.slice oa ps.length oc)
          refine ⟨_, rfl, (htr.mut hM (fun b _ e => by show b < wb.heap.size; omega)).mono (fun b hb e => by show b < wb.heap.size; omega), ?_⟩
          exact ((hm1.out.trans' hS0.fix (fun i hi e => by omega)).trans' hM (fun i hi e => by omega))
        replace hE := Lib.hid hE
        clear hS0
        go_wp2
        exact bodyPost_ret (v := .agg #[.int .i64 s, .slice oa ps.length oc]) (by simp [results, Try.results17, go_sem, ho0, ho1, hr0, hr1]) rfl hE.out
end Go.Proofs.Ytdakoccbmeojhaa
