/- Contract of made: an automaton from its transitions and accepting states. Condition: the closures only read. -/
import Derived.Test.YtdakoccbmeojhaaPb
import Derived.Test.YtdakoccbmeojhaaWq
set_option linter.unusedSimpArgs false
set_option linter.unusedVariables false
set_option maxHeartbeats 400000
namespace Go.Proofs.Ytdakoccbmeojhaa
open Go Go.RowKit Go.PP

/-- What holds in the first loop of made. -/
structure Mk1 (wc : World) (g : Nat) (v1 v2 : Value) (bs : List Bool) (w : World) : Prop where
  fix : Mut (fun b => b = g) wc w
  c0 : w.cell? ⟨g, 0, none⟩ = some v1
  c1 : w.cell? ⟨g, 1, none⟩ = some v2
  c2 : w.cell? ⟨g, 2, none⟩ = some (.slice none 0 0)
  fr : ∀ i, w.frozen? ⟨g, i, none⟩ = false
  row : w.ownsRow wc.heap.size 4 1 v2 bs.length (bs.map Value.bool)
theorem Mk1.fixed {wc : World} {g : Nat} {v1 v2 : Value} {bs : List Bool} {w w' : World} (h : Mk1 wc g v1 v2 bs w) (m : Fix w w') : Mk1 wc g v1 v2 bs w' :=
  ⟨h.fix.trans (m.mono (fun _ _ e => e.elim)), m.cell h.c0 (by simp), m.cell h.c1 (by simp), m.cell h.c2 (by simp), fun i => (show w'.frozen? ⟨g, i, none⟩ = w.frozen? ⟨g, i, none⟩ from m.frozen (show g < w.heap.size from World.block_lt_of_cell? _ _ h.c2) (by simp)).trans (h.fr i), ownsRow_mut h.row m (by simp)⟩

/-- What holds in the second loop of made. -/
structure Mk2 (wc : World) (g : Nat) (v1 v2 v3 : Value) (vs : List Value) (rss : List (List Int)) (w : World) : Prop where
  fix : Mut (fun b => b = g) wc w
  c0 : w.cell? ⟨g, 0, none⟩ = some v1
  c1 : w.cell? ⟨g, 1, none⟩ = some v2
  c2 : w.cell? ⟨g, 2, none⟩ = some v3
  fr : ∀ i, w.frozen? ⟨g, i, none⟩ = false
  rows : RowsO wc.heap.size w v3 vs rss
theorem Mk2.fixed {wc : World} {g : Nat} {v1 v2 v3 : Value} {vs : List Value} {rss : List (List Int)} {w w' : World} (h : Mk2 wc g v1 v2 v3 vs rss w) (m : Fix w w') : Mk2 wc g v1 v2 v3 vs rss w' :=
  ⟨h.fix.trans (m.mono (fun _ _ e => e.elim)), m.cell h.c0 (by simp), m.cell h.c1 (by simp), m.cell h.c2 (by simp), fun i => (show w'.frozen? ⟨g, i, none⟩ = w.frozen? ⟨g, i, none⟩ from m.frozen (show g < w.heap.size from World.block_lt_of_cell? _ _ h.c2) (by simp)).trans (h.fr i), h.rows.fix m⟩

/-- The digits still to be written. -/
structure Dig (n k p : Nat) (m r : Nat) (xs : List Int) : Prop where
  len : xs.length = k
  le : m ≤ k
  eq : digs n m r ++ xs.drop m = digs n k p
theorem Dig.start (n k p : Nat) (xs : List Int) (h : xs.length = k) : Dig n k p k p xs := ⟨h, Nat.le_refl _, by rw [List.drop_eq_nil_of_le (by omega), List.append_nil]⟩
theorem Dig.next {n k p m r : Nat} {xs : List Int} (h : Dig n k p (m + 1) r xs) : Dig n k p m (r / n) (xs.set m ((r % n : Nat) : Int)) := by
  obtain ⟨h1, h2, h3⟩ := h
  refine ⟨by simpa using h1, by omega, ?_⟩
  rw [← h3, digs, List.append_assoc]
  congr 1
  rw [List.drop_eq_getElem_cons (by simp; omega)]
  simp [List.drop_set]
theorem Dig.done {n k p r : Nat} {xs : List Int} (h : Dig n k p 0 r xs) : xs = digs n k p := by simpa [digs] using h.eq

theorem ints_rowIs {w : World} {gf n c e : Nat} {xs : List Int} (h : w.rowIs gf e n (fun i => .int .i64 (xs.getD i 0))) (hl : xs.length = n) (hn : n ≤ 1000000) : Ints (fun _ => False) w (.slice (some ⟨gf, 0, none⟩) n c) xs :=
  ⟨some ⟨gf, 0, none⟩, c, by simp [hl], by simp; omega, fun i hi => by
    have hi' : i < xs.length := by simpa using hi
    refine ⟨gf, 0, .int .i64 xs[i], rfl, id, by simp [hi'], ?_⟩
    have := h.cell (i := i) (by omega)
    rw [Nat.zero_add, this]
    simp [List.getD, hi']⟩

/-- The result of made. -/
def MadePost (w : World) (A : Au) (e : Ending) (w' : World) : Prop := ∃ v1 v2 v3, e = .returned (.agg #[v1, v2, v3]) ∧ OwnA w.heap.size w' v1 v2 v3 A ∧ Fix w w'

set_option maxRecDepth 8000 in
set_option maxHeartbeats 16000000 in
theorem made_any (rs : List Int) (n : Nat) (v1 : Value) (kt kf : Nat) (bt ct bf cf : Array Value) (T : Int → List Int → Int) (F : Nat → Bool) (w : World) (hv : Ints (fun _ => False) w v1 rs) (hrk : ∀ x ∈ rs, 0 ≤ x ∧ x ≤ 2) (hl : rs.length ≤ 4096) (hn : n ≤ 512)
    (hkt : ∀ args w, (callFunc kt args).run Try.prog w = .ok (.enter kt args) w) (hkf : ∀ args w, (callFunc kf args).run Try.prog w = .ok (.enter kf args) w)
    (hct : ∀ (i p : Nat) (k : Int) (wr : World) (v : Value), rs[i]? = some k → p < wideN k n → Fix w wr → Ints (fun _ => False) wr v (digs n k.toNat p) → Calls Try.prog kt (bt ++ #[.int .i64 i, v] ++ ct) wr (RetPost wr (.int .i64 (T i (digs n k.toNat p)))))
    (hcf : ∀ (s : Nat) (wr : World), s < n → Fix w wr → Calls Try.prog kf (bf ++ #[.int .i64 s] ++ cf) wr (RetPost wr (.bool (F s)))) :
    Calls Try.prog 66 #[v1, .int .i64 n, .func (.func kt) bt ct, .func (.func kf) bf cf] w (MadePost w (madeA rs n T F)) := by
  have hv0 := Lib.hid hv
  obtain ⟨a, c, rfl, -⟩ := hv.open'
  clear hv
  replace hrk := Lib.hid hrk
  replace hct := Lib.hid hct
  replace hcf := Lib.hid hcf
  have hm1 := (Mut.refl (fun _ => False) w).alloc (.cells #[.slice none 0 0, .slice none 0 0, .slice none 0 0] 35)
  have hR := BoxA.mk' w (.slice none 0 0) (.slice none 0 0) (.slice none 0 0) 35
  have hfr : ∀ i, (w.alloc (.cells #[.slice none 0 0, .slice none 0 0, .slice none 0 0] 35)).frozen? ⟨w.heap.size, i, none⟩ = false := fun i => by go_simp
  have hz : (w.alloc (.cells #[.slice none 0 0, .slice none 0 0, .slice none 0 0] 35)).heap.size = w.heap.size + 1 := by simp
  have hcp := Lib.hid (copy59 (.slice a rs.length c) (rs.map (Value.int .i64)) _ (hv0.out.fix hm1) (by simpa using hl) (fun u hu => by obtain ⟨b, _, rfl⟩ := List.mem_map.1 hu; rfl))
  replace hR := Lib.hid hR
  replace hfr := Lib.hid hfr
  replace hz := Lib.hid hz
  replace hm1 := Lib.hid hm1
  go_enter Try.func66, Try.ntmps66
  go_wp2_with fail
  refine hcp.out.mono ?_
  intro e w1 hcp1
  obtain ⟨x1, y1, rfl, o1, N1, m1⟩ := copy_own hcp1 _ (Nat.le_refl _)
  clear hcp hcp1
  have hC := Lib.hid (show Mk1 (w1.alloc (.cells #[.slice x1 rs.length y1, .slice none 0 0, .slice none 0 0] 35)) w1.heap.size (.slice x1 rs.length y1) (.slice none 0 0) ((List.range 0).map F) (w1.alloc (.cells #[.slice x1 rs.length y1, .slice none 0 0, .slice none 0 0] 35)) from
    have hb := BoxA.mk' w1 (.slice x1 rs.length y1) (.slice none 0 0) (.slice none 0 0) 35
    ⟨Mut.refl _ _, hb.c0, hb.c1, hb.c2, fun i => by simp only [World.frozen?]; rw [heap_alloc_new]; rfl, World.ownsRow_nil _ _ _ _⟩)
  have hg1 := hm1.out.trans m1
  have o2 := Lib.hid (ownsRow_mut o1 ((Mut.refl (fun _ => False) w1).alloc (.cells #[.slice x1 rs.length y1, .slice none 0 0, .slice none 0 0] 35)) (by simp))
  have hfx := Lib.hid (hg1.alloc (.cells #[.slice x1 rs.length y1, .slice none 0 0, .slice none 0 0] 35))
  have hzw : w.heap.size + 1 ≤ w1.heap.size := by have := m1.size; have := hz.out; omega
  have hn1 : ∀ k, (Value.slice x1 rs.length y1).ownBlock = some k → w.heap.size ≤ k ∧ k < w1.heap.size := fun k hk => by have := N1 k hk; have := hz.out; omega
  have hRR := Lib.hid (hR.out.fix (m1.trans ((Mut.refl (fun _ => False) w1).alloc (.cells #[.slice x1 rs.length y1, .slice none 0 0, .slice none 0 0] 35))))
  have hRf := Lib.hid (fun i => show (w1.alloc (.cells #[.slice x1 rs.length y1, .slice none 0 0, .slice none 0 0] 35)).frozen? ⟨w.heap.size, i, none⟩ = false from
    ((m1.trans ((Mut.refl (fun _ => False) w1).alloc (.cells #[.slice x1 rs.length y1, .slice none 0 0, .slice none 0 0] 35))).frozen (a := ⟨w.heap.size, i, none⟩) (by have := hz.out; show w.heap.size < _; omega) (by simp)).trans (hfr.out i))
  have hwc : (w1.alloc (.cells #[.slice x1 rs.length y1, .slice none 0 0, .slice none 0 0] 35)).heap.size = w1.heap.size + 1 := by simp
  replace hwc := Lib.hid hwc
  replace hn1 := Lib.hid hn1
  clear o1 N1 m1 hg1 hR hz hm1
  go_wp2
  generalize w1.alloc (.cells #[.slice x1 rs.length y1, .slice none 0 0, .slice none 0 0] 35) = wc at *
  generalize w1.heap.size = g at *
  go_loopw [22] (fun i wr => ∃ (j : Nat) (v : Value), j ≤ n ∧ i = .int .i64 j ∧ Mk1 wc g (.slice x1 rs.length y1) v ((List.range j).map F) wr) (fun i _ => n - (intOf i).toNat)
  case atStart => exact ⟨0, _, by omega, rfl, hC.out⟩
  case round =>
    clear hC
    obtain ⟨j, v, hj, rfl, hM⟩ := hrel
    have hgc : g < wc.heap.size := by rw [hwc.out]; omega
    by_cases hlt : j < n
    · obtain ⟨va, vc, rfl⟩ := ownsRow_slice hM.row
      have hS := Lib.hid (hM.fixed (Mut.refl _ wr).drew)
      have hbl : ((List.range j).map F).length = j := by simp
      have hsn := Lib.hid (show (List.range (j + 1)).map F = (List.range j).map F ++ [F j] by rw [List.range_succ, List.map_append]; rfl)
      generalize (List.range j).map F = bs at *
      subst hbl
      have hne := Cls.ne hS.out
      have hzr := hM.fix.size
      have hfw := Lib.hid ((hfx.out.trans' hM.fix (fun i hi e => by omega)).drew)
      clear hM
      go_wp2
      refine wp_plan (Mk1 wc g (.slice x1 rs.length y1) (.slice va bs.length vc) bs) [0, 1, 2, 3, 4, 5] [([0, 1, 2, 3], some 4), ([], some 5)] [6, 7, 8] (by kernel_rfl) (by kernel_rfl) ?_
      refine ⟨Of.mk hS.out, ?_⟩
      simp only [wpPlan, pickOps_cons, pickOps_nil, List.getElem?_cons_zero, List.getElem?_cons_succ, pickOp_some]
      have s0 := fun x : Cls (Mk1 wc g (.slice x1 rs.length y1) (.slice va bs.length vc) bs) => x.ok.c1
      repeat (go_big_quiet_step (fail))
      refine wpQuiet_nil ?_
      clear s0
      go_wp2_with fail
      refine (hcf.out bs.length _ hlt hfw.out).mono ?_
      rintro e w2 ⟨rfl, m1⟩
      have hS2 := Lib.hid (hS.out.fixed m1)
      clear hS m1 hfw
      go_wp2
      refine ⟨fun _ => Of.mk hS2.out, Of.mk hS2.out, wpQuiet_nil ?_⟩
      have hS3 := Lib.hid (hS2.out.fixed ((Mut.refl _ w2).alloc (.cells #[.bool (F bs.length)] 4)))
      have hzz := Lib.hid hS2.out.fix.size
      have hbx := Lib.hid (show (w2.alloc (.cells #[.bool (F bs.length)] 4)).cell? ⟨w2.heap.size, 0, none⟩ = some (.bool (F bs.length)) from by simp only [World.cell?]; rw [heap_alloc_new]; rfl)
      go_wp2
      refine ⟨fun _ => Of.mk hS3.out, ?_⟩
      have hkeep := Lib.hid (fun w5 (hg : (w2.alloc (.cells #[.bool (F bs.length)] 4)).grownBy w5 (Value.slice va bs.length vc).ownBlock) => show (∀ i x, (w2.alloc (.cells #[.bool (F bs.length)] 4)).cell? ⟨g, i, none⟩ = some x → w5.cell? ⟨g, i, none⟩ = some x) ∧ ∀ i, w5.frozen? ⟨g, i, none⟩ = false from by
        have hM := (Mut.refl (fun k => (Value.slice va bs.length vc).ownBlock = some k) _).grown hg (fun k hk _ => hk)
        have hnb : ¬ (Value.slice va bs.length vc).ownBlock = some g := fun e => by have := (hS3.out.row.lt _ e).1; omega
        exact ⟨fun i x hx => hM.cell hx hnb, fun i => (show w5.frozen? ⟨g, i, none⟩ = _ from hM.frozen (show g < _ from World.block_lt_of_cell? _ _ hS3.out.c1) hnb).trans (hS3.out.fr i)⟩)
      go_wp2_with (at_builtin; refine wpList_push rfl _ _ 23 rfl Try.underlying23 info4 rfl (.slice va bs.length vc) (bs.map Value.bool) (.bool (F bs.length)) rfl (by simpa using hS3.out.row) _ rfl (by exact hbx.out) rfl (by simp; omega) (by decide) (by have := hzz.out; simp; omega) ?_; intro v5 w5 ho5 hg5 hb5; obtain ⟨a5, c5, rfl⟩ := ownsRow_slice ho5; obtain ⟨e1, e2⟩ := hkeep.out w5 hg5; have e11 := e1 _ _ hS3.out.c1; have e21 := e2 1)
      have hE := Lib.hid (show Mk1 wc g (.slice x1 rs.length y1) (.slice a5 (bs.length + 1) c5) (bs ++ [F bs.length]) (w5.setCell ⟨g, 1, none⟩ (.slice a5 (bs.length + 1) c5)) from by
        have hM := (Mut.refl (fun b => b = g) w5).setCell (p := ⟨g, 1, none⟩) (fun _ => rfl) (.slice a5 (bs.length + 1) c5)
        have hrw : w5.ownsRow wc.heap.size 4 1 (.slice a5 (bs.length + 1) c5) (bs ++ [F bs.length]).length ((bs ++ [F bs.length]).map Value.bool) := by simpa using ho5
        refine ⟨(hS3.out.fix.grown hg5 (fun k hk h => by have := (hS3.out.row.lt k hk).1; omega)).trans hM, ?_, World.cell?_setCell_same _ _ _ e11, ?_, fun i => by simpa using e2 i, ownsRow_mut hrw hM (fun k hk e => by have := (hrw.lt k hk).1; omega)⟩
        · rw [World.cell?_setCell_other _ _ _ _ (by simp)]; exact e1 _ _ hS3.out.c0
        · rw [World.cell?_setCell_other _ _ _ _ (by simp)]; exact e1 _ _ hS3.out.c2)
      clear ho5 hg5 hb5 hS3 hS2 hkeep e1 e2
      go_wp2
      refine NoPanic.normal ?_
      go_wp2
      go_roundw
      case rel => exact ⟨bs.length + 1, _, by omega, by go_num, by rw [hsn.out]; exact hE.out⟩
      case measure => simp [intOf]; omega
    · obtain rfl : j = n := by omega
      obtain ⟨va, vc, rfl⟩ := ownsRow_slice hM.row
      have hM0 := Lib.hid hM
      have hC := Lib.hid (show Mk2 wr g (.slice x1 rs.length y1) (.slice va ((List.range j).map F).length vc) (.slice none 0 0) [] ((tablesOf j T rs).take 0) wr from ⟨Mut.refl _ _, hM.c0, hM.c1, hM.c2, hM.fr, RowsO.nil _ _⟩)
      have hfw := Lib.hid (hfx.out.trans' hM.fix (fun i hi e => by omega))
      have hgd : g < wr.heap.size := World.block_lt_of_cell? _ _ hM.c0
      have htl : (tablesOf j T rs).length = rs.length := by simp [tablesOf]
      have htab := Lib.hid (show ∀ (i : Nat) k, rs[i]? = some k → (tablesOf j T rs).take (i + 1) = (tablesOf j T rs).take i ++ [tableOf j T i k] from fun i k hk => by
        have hi := (List.getElem?_eq_some_iff.1 hk).1
        rw [List.take_succ_eq_append_getElem (by rw [htl]; exact hi)]
        simp [tablesOf, List.getD, hk])
      have hmad := Lib.hid (show madeA rs j T F = ⟨rs, (List.range j).map F, tablesOf j T rs⟩ from rfl)
      generalize madeA rs j T F = MA at *
      generalize hbs : (List.range j).map F = bs at *
      generalize tablesOf j T rs = tb at *
      replace hbs := Lib.hid hbs
      replace htl := Lib.hid htl
      rename World => wd
      clear hM
      go_wp2
      go_loopw [36] (fun i wr => ∃ (q : Nat) (v3 : Value) (vs : List Value), q ≤ rs.length ∧ i = .int .i64 q ∧ Mk2 wd g (.slice x1 rs.length y1) (.slice va bs.length vc) v3 vs (tb.take q) wr) (fun i _ => rs.length - (intOf i).toNat)
      case atStart => exact ⟨0, _, _, by omega, rfl, hC.out⟩
      case round =>
        clear hC
        obtain ⟨q, v3, vs, hq, rfl, hM⟩ := hrel
        have hfq := Lib.hid (hfw.out.trans' hM.fix (fun i hi e => by omega))
        by_cases hlt : q < rs.length
        · obtain ⟨b, off, k, rfl, hk, hck⟩ := hv0.out.slot hfq.out hlt
          obtain ⟨hk0, hk2⟩ := hrk.out k (List.mem_of_getElem? hk)
          have hsn := Lib.hid (htab.out q k hk)
          replace hk := Lib.hid hk
          have hM2 := Lib.hid hM
          have hwl := wideN_le hk2 hn
          have hwd := Lib.hid (wide_any k j wr ⟨hk0, hk2⟩ hn)
          obtain ⟨W, hW⟩ : ∃ W, W = wideN k j := ⟨_, rfl⟩
          rw [← hW] at hwd hwl
          replace hW := Lib.hid hW
          clear hM
          go_wp2_with fail
          refine hwd.out.mono ?_
          rintro e w2 ⟨rfl, rfl⟩
          rename World => wq
          have htq := Lib.hid (show ∀ p, p < W → (tableOf j T q k)[p]? = some (T q (digs j k.toNat p)) from fun p hp => by
            rw [hW.out] at hp
            simp [tableOf, hp])
          have htw := Lib.hid (show (tableOf j T q k).length = W by rw [hW.out]; simp [tableOf])
          generalize tableOf j T q k = tq at *
          have hl0 := Lib.hid (show wq.ownsRow wq.heap.size 3 1 (.slice none 0 0) 0 ((tq.take 0).map (Value.int .i64)) from World.ownsRow_nil _ _ _ _)
          go_wp2
          go_loopw [44, 13] (fun i l wr => ∃ p : Nat, p ≤ W ∧ i = .int .i64 p ∧ Fix wq wr ∧ wr.ownsRow wq.heap.size 3 1 l p ((tq.take p).map (Value.int .i64))) (fun i _ _ => W - (intOf i).toNat)
          case atStart => exact ⟨0, by omega, rfl, Mut.refl _ _, hl0.out⟩
          case round =>
            clear hl0
            obtain ⟨p, hp, rfl, hfp, hrow⟩ := hrel
            by_cases hltp : p < W
            · obtain ⟨va3, vc3, rfl⟩ := ownsRow_slice hrow
              obtain ⟨kn, rfl⟩ := Int.eq_ofNat_of_zero_le hk0
              have hmk := fun w => run_make_row' (P := Try.prog) 22 3 (.int .i64 0) 8 Try.underlying22 info3 rfl .i64 .i64 kn (by omega) (by omega) w
              have hzq : wq.heap.size ≤ wr.heap.size := hfp.size
              have hrw0 := Lib.hid (And.intro (ownsRow_mut hrow ((Mut.refl (fun _ => False) wr).alloc (.cells (madeCells #[.int .i64 0] kn) 3)) (by simp)) (fun k hk => (hrow.lt k hk).2))
              have hf0q := Lib.hid (Mut.alloc hfp (.cells (madeCells #[.int .i64 0] kn) 3))
              clear hrow hfp
              have hpl : p ≤ 262144 := by omega
              clear hwl
              have hst := Lib.hid (show Dig j kn p kn p (List.replicate kn 0) from Dig.start _ _ _ _ (by simp))
              have hro := Lib.hid (show (wr.alloc (.cells (madeCells #[.int .i64 0] kn) 3)).rowIs wr.heap.size 3 kn (fun i => .int .i64 ((List.replicate kn (0 : Int)).getD i 0)) from
                (World.rowIs_made wr (.int .i64 0) kn 3).congr (fun i hi => by simp [List.getD, hi]))
              have hjp : 0 < kn → 0 < j := fun h => by
                rcases Nat.eq_zero_or_pos j with e | e
                · subst e
                  have h1 := hW.out
                  rw [wideN, Int.toNat_natCast, Nat.zero_pow h] at h1
                  omega
                · exact e
              replace hjp := Lib.hid hjp
              go_wp2
              generalize hw0 : wr.alloc (.cells (madeCells #[.int .i64 0] kn) 3) = w0 at *
              have hz0 : w0.heap.size = wr.heap.size + 1 := by rw [← hw0]; simp
              replace hz0 := Lib.hid hz0
              clear hw0
              generalize wr.heap.size = gf at *
              go_loopw [16, 17] (fun i r wz => ∃ (x : Int) (m rr : Nat) (xs : List Int), i = .int .i64 x ∧ x + 1 = m ∧ r = .int .i64 rr ∧ rr ≤ 262144 ∧ Dig j kn p m rr xs ∧ Mut (fun b => b = gf) w0 wz ∧ wz.rowIs gf 3 kn (fun i => .int .i64 (xs.getD i 0))) (fun i _ _ => (intOf i + 1).toNat)
              case atStart => exact ⟨_, kn, p, _, rfl, by omega, rfl, hpl, hst.out, Mut.refl _ _, hro.out⟩
              case round =>
                clear hst hro
                obtain ⟨x, m, rr, xs, rfl, hxm, rfl, hrr, hD, hmz, hrz⟩ := hrel
                cases m with
                | zero =>
                  obtain rfl : x = -1 := by omega
                  have hxs := hD.done
                  have hxl := hD.len
                  subst hxs
                  have hin := ints_rowIs (c := kn) hrz hxl (by omega)
                  have hfz := hf0q.out.trans' hmz (fun i hi e => by omega)
                  have hrwz := Lib.hid (ownsRow_mut hrw0.out.1 hmz (fun k hk e => by have := hrw0.out.2 k hk; omega))
                  have hcl := Lib.hid (hct.out q p kn wr (.slice (some ⟨gf, 0, none⟩) kn kn) hk.out (by rw [← hW.out]; exact hltp) (hfq.out.trans hfz) hin)
                  rw [Int.toNat_natCast, Array.append_assoc] at hcl
                  have hsnp := Lib.hid (show (tq.take (p + 1)).map (Value.int .i64) = (tq.take p).map (Value.int .i64) ++ [.int .i64 (T q (digs j kn p))] by
                    have h1 := htq.out p hltp
                    rw [Int.toNat_natCast] at h1
                    obtain ⟨h2, h3⟩ := List.getElem?_eq_some_iff.1 h1
                    rw [List.take_succ_eq_append_getElem h2, List.map_append, h3]; rfl)
                  have hlp : ((tq.take p).map (Value.int .i64)).length = p := by simp [htw.out]; omega
                  generalize (tq.take p).map (Value.int .i64) = cs at *
                  subst hlp
                  replace hfz := Lib.hid hfz
                  clear hmz hrz hin hD hxl hrw0
                  go_wp2_with fail
                  refine hcl.out.mono ?_
                  rintro e w2 ⟨rfl, m2⟩
                  generalize T q (digs j kn cs.length) = tv at *
                  have hfz2 := Lib.hid ((hfz.out.trans m2).alloc (.cells #[.int .i64 tv] 3))
                  have hrw2 := Lib.hid ((ownsRow_mut hrwz.out m2 (by simp)))
                  have hrw3 := Lib.hid (ownsRow_mut hrw2.out ((Mut.refl (fun _ => False) w2).alloc (.cells #[.int .i64 tv] 3)) (by simp))
                  have hbx := Lib.hid (cell_new1 w2 (.int .i64 tv) 3)
                  have hzz := Lib.hid hfz2.out.size
                  clear m2 hfz hrwz hrw2 hcl
                  go_wp2_with (at_builtin; refine wpList_push rfl _ _ 22 rfl Try.underlying22 info3 rfl (.slice va3 cs.length vc3) cs (.int .i64 tv) rfl hrw3.out _ rfl (by exact hbx.out) rfl (by omega) (by decide) (by exact hzz.out) ?_; intro v5 w5 ho5 hg5 hb5; obtain ⟨a5, c5, rfl⟩ := ownsRow_slice ho5)
                  have hE := Lib.hid (And.intro (Mut.grown hfz2.out hg5 (fun k hk h => by have := (hrw3.out.lt k hk).1; omega)) ho5)
                  clear hg5 hb5 ho5
                  go_wp2
                  go_roundw
                  case rel => exact ⟨cs.length + 1, by omega, by go_num, hE.out.1, by have h := hE.out.2; rw [hsnp.out]; simpa using h⟩
                  case measure => simp [intOf]; omega
                | succ m =>
                  obtain rfl : x = (m : Int) := by omega
                  have hmk : m < kn := by have := hD.le; omega
                  have hj0 := hjp.out (by omega)
                  have hcu := hrz.cell (i := m) hmk
                  have hfu := hrz.frozen m
                  have hN := Lib.hid (And.intro hD (And.intro hmz hrz))
                  clear hD hmz hrz
                  have hrd : rr / j ≤ 262144 := Nat.le_trans (Nat.div_le_self _ _) hrr
                  have hrd1 : 0 ≤ (rr : Int) / (j : Int) := Int.ediv_nonneg (by omega) (by omega)
                  have hrd2 : (rr : Int) / (j : Int) ≤ 262144 := by rw [← Int.natCast_ediv]; omega
                  go_wp2
                  go_quiet (fail)
                  go_wp2
                  go_roundw
                  case rel =>
                    refine ⟨_, m, rr / j, xs.set m ((rr % j : Nat) : Int), rfl, by omega, by first | go_num | simp, hrd, hN.out.1.next, ?_, ?_⟩
                    · exact Mut.drewN (hN.out.2.1.setCell (p := ⟨gf, m, none⟩) (fun _ => rfl) _) _
                    · refine (hN.out.2.2.set m (.int .i64 ((rr : Int) % (j : Int)))).congr (fun i hi => ?_)
                      have hl := hN.out.1.len
                      by_cases e : i = m
                      · subst e; simp [List.getD, hl, hi]
                      · rw [if_neg e]; simp [List.getD, Ne.symm e]
                  case measure => simp [intOf]
            · obtain rfl : p = W := by omega
              obtain ⟨va3, vc3, rfl⟩ := ownsRow_slice hrow
              have htk : tq.take p = tq := by rw [← htw.out]; exact List.take_length
              rw [htk] at hrow
              have hzd := hM2.out.fix.size
              have hqz : vs.length < 1099511627776 := by
                have h1 := hM2.out.rows.len
                rw [List.length_take] at h1
                omega
              have hlt2 : tq.length = p := htw.out
              obtain ⟨va4, vc4, rfl⟩ := ownsRow_slice hM2.out.rows.own
              have hS2 := hM2.out.fixed hfp
              have hrow2 := own_base hrow hzd
              have hfr2 := hS2.fr 2
              have hc2 := hS2.c2
              have hS3 := Lib.hid (hS2.fixed ((Mut.refl _ wr).alloc (.cells #[.slice va3 p vc3] 22)))
              have o2 := Lib.hid (ownsRow_mut hrow2 ((Mut.refl (fun _ => False) wr).alloc (.cells #[.slice va3 p vc3] 22)) (by simp))
              have hbx := Lib.hid (cell_new1 wr (.slice va3 p vc3) 22)
              have hzz := Lib.hid hS3.out.fix.size
              have hsn2 := Lib.hid (show tb.take (q + 1) = tb.take q ++ [tq] from hsn.out)
              generalize htq0 : tb.take q = tbq at *
              have hkeep := Lib.hid (fun w5 (hg : (wr.alloc (.cells #[.slice va3 p vc3] 22)).grownBy w5 (Value.slice va4 vs.length vc4).ownBlock) => show w5.cell? ⟨g, 2, none⟩ = some (.slice va4 vs.length vc4) ∧ (∀ i, w5.frozen? ⟨g, i, none⟩ = false) ∧ w5.cell? ⟨g, 0, none⟩ = some (.slice x1 rs.length y1) ∧ w5.cell? ⟨g, 1, none⟩ = some (.slice va bs.length vc) from by
                have hM := (Mut.refl (fun k => (Value.slice va4 vs.length vc4).ownBlock = some k) _).grown hg (fun k hk _ => hk)
                have hnb : ¬ (Value.slice va4 vs.length vc4).ownBlock = some g := fun e => by have := (hS3.out.rows.own.lt _ e).1; omega
                exact ⟨hM.cell hS3.out.c2 hnb, fun i => (show w5.frozen? ⟨g, i, none⟩ = _ from hM.frozen (show g < _ from World.block_lt_of_cell? _ _ hS3.out.c2) hnb).trans (hS3.out.fr i), hM.cell hS3.out.c0 hnb, hM.cell hS3.out.c1 hnb⟩)
              clear hS2 hrow2 hrow hfp hsn htq htk
              go_wp2_with (at_builtin; refine wpList_push rfl _ _ 24 rfl Try.underlying24 info22 rfl (.slice va4 vs.length vc4) vs (.slice va3 p vc3) rfl hS3.out.rows.own _ rfl (by exact hbx.out) rfl hqz (by decide) (by have := hzz.out; omega) ?_; intro v5 w5 ho5 hg5 hb5; obtain ⟨a5, c5, rfl⟩ := ownsRow_slice ho5; obtain ⟨e1, e2, e3, e4⟩ := hkeep.out w5 hg5; have e21 := e2 2)
              have hE := Lib.hid (show Mk2 wd g (.slice x1 rs.length y1) (.slice va bs.length vc) (.slice a5 (vs ++ [Value.slice va3 p vc3]).length c5) (vs ++ [Value.slice va3 p vc3]) (tbq ++ [tq]) (w5.setCell ⟨g, 2, none⟩ (.slice a5 (vs ++ [Value.slice va3 p vc3]).length c5)) from by
                have hrw := hS3.out.rows.push (by rw [hlt2]; exact o2.out) ho5 hg5
                have hM := (Mut.refl (fun b => b = g) w5).setCell (p := ⟨g, 2, none⟩) (fun _ => rfl) (.slice a5 (vs ++ [Value.slice va3 p vc3]).length c5)
                refine ⟨(hS3.out.fix.grown hg5 (fun k hk h => by have := (hS3.out.rows.own.lt k hk).1; omega)).trans hM, ?_, ?_, World.cell?_setCell_same _ _ _ e1, fun i => by simpa using e2 i, hrw.mut hM (fun k hk _ e => by omega)⟩
                · rw [World.cell?_setCell_other _ _ _ _ (by simp)]; exact e3
                · rw [World.cell?_setCell_other _ _ _ _ (by simp)]; exact e4)
              clear ho5 hg5 hb5 hS3 o2 hkeep e3 e4 e2
              go_wp2
              go_roundw
              case rel => exact ⟨q + 1, _, _, by omega, by go_num, by rw [hsn2.out]; have h := hE.out; rw [show (vs ++ [Value.slice va3 p vc3]).length = vs.length + 1 from by simp] at h; exact h⟩
              case measure => simp [intOf]; omega
        · obtain rfl : q = rs.length := by omega
          have htk : tb.take rs.length = tb := by rw [← htl.out]; exact List.take_length
          rw [htk] at hM
          have hrw := hM.rows
          obtain ⟨va4, vc4, rfl⟩ := ownsRow_slice hrw.own
          have ho0 := hM.c0
          have ho1 := hM.c1
          have ho2 := hM.c2
          have hgw : w.heap.size < wc.heap.size := by omega
          have hmc := hM0.out.fix
          have hzc := hmc.size
          have key : ∀ i x, wc.cell? ⟨w.heap.size, i, none⟩ = some x → wr.cell? ⟨w.heap.size, i, none⟩ = some x := fun i x hx => hM.fix.cell (hmc.cell hx (by show ¬ w.heap.size = g; omega)) (by show ¬ w.heap.size = g; omega)
          have keyf : ∀ i, wr.frozen? ⟨w.heap.size, i, none⟩ = false := fun i => by
            have h1 : wr.frozen? ⟨w.heap.size, i, none⟩ = wc.frozen? ⟨w.heap.size, i, none⟩ := (hM.fix.frozen (a := ⟨w.heap.size, i, none⟩) (by show w.heap.size < _; omega) (by show ¬ w.heap.size = g; omega)).trans (hmc.frozen (a := ⟨w.heap.size, i, none⟩) hgw (by show ¬ w.heap.size = g; omega))
            rw [h1]
            exact hRf.out i
          have hr0 := key 0 _ hRR.out.c0
          have hr1 := key 1 _ hRR.out.c1
          have hr2 := key 2 _ hRR.out.c2
          have hf0 := keyf 0
          have hf1 := keyf 1
          have hf2 := keyf 2
          have hE : MadePost w MA (.returned (.agg #[.slice x1 rs.length y1, .slice va bs.length vc, .slice va4 vs.length vc4])) (((wr.setCell ⟨w.heap.size, 0, none⟩ (.slice x1 rs.length y1)).setCell ⟨w.heap.size, 1, none⟩ (.slice va bs.length vc)).setCell ⟨w.heap.size, 2, none⟩ (.slice va4 vs.length vc4)) := by
            have hMM := (((Mut.refl (fun b => b = w.heap.size) wr).setCell (p := ⟨w.heap.size, 0, none⟩) (fun _ => rfl) (.slice x1 rs.length y1)).setCell (p := ⟨w.heap.size, 1, none⟩) (fun _ => rfl) (.slice va bs.length vc)).setCell (p := ⟨w.heap.size, 2, none⟩) (fun _ => rfl) (.slice va4 vs.length vc4)
            have r1 := ownsRow_mut o2.out hmc (fun k hk e => by have := (hn1.out k hk).2; omega)
            have r2 := ownsRow_mut r1 hM.fix (fun k hk e => by have := (hn1.out k hk).2; omega)
            have r3 := ownsRow_mut r2 hMM (fun k hk e => by have h3 := (r2.lt k hk).1; simp at h3; omega)
            have f1 := ownsRow_mut hM0.out.row hM.fix (fun k hk e => by have := (hM0.out.row.lt k hk).1; omega)
            have f2 := ownsRow_mut f1 hMM (fun k hk e => by have := (f1.lt k hk).1; omega)
            have r5 := hrw.mut hMM (fun k hk _ e => by omega)
            have hfz := hfx.out.size
            have hzd := hfw.out.size
            rw [hmad.out]
            refine ⟨_, _, _, rfl, ⟨own_base r3 (by simp), own_base f2 (by omega), vs, ⟨own_base r5.own (by omega), r5.len, fun j u r h1 h2 => own_base (r5.rows j u r h1 h2) (by omega)⟩⟩, ?_⟩
            exact (hfw.out.trans' hM.fix (fun i hi e => by omega)).trans' hMM (fun i hi e => by omega)
          replace hE := Lib.hid hE
          clear key keyf hM hrw hmc
          go_wp2
          exact bodyPost_ret (v := .agg #[.slice x1 rs.length y1, .slice va bs.length vc, .slice va4 vs.length vc4]) (by simp [results, Try.results66, go_sem, ho0, ho1, ho2, hr0, hr1, hr2]) rfl hE.out
end Go.Proofs.Ytdakoccbmeojhaa
