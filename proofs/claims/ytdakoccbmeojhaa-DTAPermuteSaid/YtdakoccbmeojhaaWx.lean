/- Contract of Kept of the reference. Condition: a valid automaton and a closed list of its states. -/
import Derived.Test.YtdakoccbmeojhaaWw
set_option linter.unusedSimpArgs false
set_option linter.unusedVariables false
set_option maxHeartbeats 400000
namespace Go.Proofs.Ytdakoccbmeojhaa
open Go Go.RowKit Go.PP

set_option maxRecDepth 8000 in
set_option maxHeartbeats 16000000 in
theorem kept_any (A : Au) (hok : AuOk A) (l : List Int) (hsh : ShutL A l) (v1 v2 v3 vl : Value) (w : World) (hA : AuIn (fun _ => False) w v1 v2 v3 A) (hl : Ints (fun _ => False) w vl l) :
    Calls Try.prog 39 #[.agg #[v1, v2, v3], vl] w (KeptPost w v1 (keptA A l)) := by
  have hl0 := Lib.hid hl
  have hA0 := Lib.hid hA
  obtain ⟨xo, co, rfl, lo⟩ := hl.open'
  obtain ⟨a1, c1, a2, c2, a3, c3, rfl, rfl, rfl, -, -, -⟩ := hA.open
  have hrl : A.ranks.length ≤ 4096 := hok.alpha.hi
  have hln : l.length ≤ 512 := hsh.hi
  have hlp : 0 < l.length := hsh.pos
  replace hok := Lib.hid hok
  replace hsh := Lib.hid hsh
  clear hl hA
  obtain ⟨hBX, hRR, hRf, hC, hcW, hzc⟩ := kp_start w (.slice a1 A.ranks.length c1) (.slice a2 A.final.length c2) (.slice a3 A.to.length c3) _ rfl
  replace hBX := Lib.hid hBX
  replace hRR := Lib.hid hRR
  replace hRf := Lib.hid hRf
  replace hC := Lib.hid hC
  replace hcW := Lib.hid hcW
  go_enter Try.func39, Try.ntmps39
  go_wp2
  generalize ((w.alloc (.cells #[.slice a1 A.ranks.length c1, .slice a2 A.final.length c2, .slice a3 A.to.length c3] 26)).alloc (.cells #[.slice none 0 0, .slice none 0 0, .slice none 0 0] 26)).alloc (.cells #[.slice a1 A.ranks.length c1, .slice none 0 0, .slice none 0 0] 26) = wc at *
  have hgc : w.heap.size + 1 + 1 < wc.heap.size := by omega
  go_loopw [6] (fun i wr => ∃ (j : Nat) (v : Value), j ≤ l.length ∧ i = .int .i64 j ∧ Mk1 wc (w.heap.size + 1 + 1) (.slice a1 A.ranks.length c1) v ((List.range j).map (keptF A l)) wr) (fun i _ => l.length - (intOf i).toNat)
  case atStart => exact ⟨0, _, by omega, rfl, hC.out⟩
  case round =>
    clear hC
    obtain ⟨j, v, hj, rfl, hM⟩ := hrel
    by_cases hlt : j < l.length
    · obtain ⟨va, vc, rfl⟩ := ownsRow_slice hM.row
      obtain ⟨b6, off6, y, rfl, hy, hcy⟩ := hl0.out.slot (Mut.refl _ w) hlt
      obtain ⟨hy0, hy1⟩ := hsh.out.rng y (List.mem_of_getElem? hy)
      obtain ⟨yn, rfl⟩ := Int.eq_ofNat_of_zero_le hy0
      obtain ⟨b7, off7, z, rfl, hz, hcz⟩ := hA0.out.f.slot (Mut.refl _ w) (k := yn) (by omega)
      have hkf : keptF A l j = z := by simp [keptF, List.getD, hy, hz]
      have hb6 : b6 < w.heap.size := World.block_lt_of_cell? _ _ hcy
      have hb7 : b7 < w.heap.size := World.block_lt_of_cell? _ _ hcz
      have hcy1 := hcW.out.cell hcy (by simp)
      have hcz1 := hcW.out.cell hcz (by simp)
      have hk1 := hBX.out.c1
      have hyl : yn < A.final.length := by omega
      have hS := Lib.hid (hM.fixed (Mut.refl _ wr).drew)
      have hbl : ((List.range j).map (keptF A l)).length = j := by simp
      have hsn := Lib.hid (show (List.range (j + 1)).map (keptF A l) = (List.range j).map (keptF A l) ++ [z] by rw [List.range_succ, List.map_append, ← hkf]; rfl)
      generalize (List.range j).map (keptF A l) = bs at *
      subst hbl
      have hne := Cls.ne hS.out
      clear hM hkf hy hz hcy hcz hy0 hy1
      go_wp2
      refine wp_plan (Mk1 wc (w.heap.size + 1 + 1) (.slice a1 A.ranks.length c1) (.slice va bs.length vc) bs) [0, 1, 2, 3, 4, 5, 6, 7, 8, 9, 10] [([0, 1, 2, 3, 4, 5, 6, 7, 8, 9], some 10)] [11, 12, 13] (by kernel_rfl) (by kernel_rfl) ?_
      refine ⟨Of.mk hS.out, ?_⟩
      simp only [wpPlan, pickOps_cons, pickOps_nil, List.getElem?_cons_zero, List.getElem?_cons_succ, pickOp_some]
      have s0 := fun x : Cls (Mk1 wc (w.heap.size + 1 + 1) (.slice a1 A.ranks.length c1) (.slice va bs.length vc) bs) => x.ok.c1
      have s1 := fun x : Cls (Mk1 wc (w.heap.size + 1 + 1) (.slice a1 A.ranks.length c1) (.slice va bs.length vc) bs) => x.ok.fix.cell hk1 (by show ¬ w.heap.size = w.heap.size + 1 + 1; omega)
      have s2 := fun x : Cls (Mk1 wc (w.heap.size + 1 + 1) (.slice a1 A.ranks.length c1) (.slice va bs.length vc) bs) => x.ok.fix.cell hcy1 (by show ¬ b6 = w.heap.size + 1 + 1; omega)
      have s3 := fun x : Cls (Mk1 wc (w.heap.size + 1 + 1) (.slice a1 A.ranks.length c1) (.slice va bs.length vc) bs) => x.ok.fix.cell hcz1 (by show ¬ b7 = w.heap.size + 1 + 1; omega)
      repeat (go_big_quiet_step (fail))
      refine wpQuiet_nil ?_
      clear s0 s1 s2 s3
      generalize wr.drew = wr1 at *
      have hS3 := Lib.hid (hS.out.fixed ((Mut.refl _ wr1).alloc (.cells #[.bool z] 4)))
      have hzz := Lib.hid hS.out.fix.size
      have hbx := Lib.hid (show (wr1.alloc (.cells #[.bool z] 4)).cell? ⟨wr1.heap.size, 0, none⟩ = some (.bool z) from by simp only [World.cell?]; rw [heap_alloc_new]; rfl)
      go_wp2
      refine ⟨fun _ => Of.mk hS3.out, ?_⟩
      have hkeep := Lib.hid (fun w5 (hg : (wr1.alloc (.cells #[.bool z] 4)).grownBy w5 (Value.slice va bs.length vc).ownBlock) => show (∀ i x, (wr1.alloc (.cells #[.bool z] 4)).cell? ⟨w.heap.size + 1 + 1, i, none⟩ = some x → w5.cell? ⟨w.heap.size + 1 + 1, i, none⟩ = some x) ∧ ∀ i, w5.frozen? ⟨w.heap.size + 1 + 1, i, none⟩ = false from by
        have hM := (Mut.refl (fun k => (Value.slice va bs.length vc).ownBlock = some k) _).grown hg (fun k hk _ => hk)
        have hnb : ¬ (Value.slice va bs.length vc).ownBlock = some (w.heap.size + 1 + 1) := fun e => by have := (hS3.out.row.lt _ e).1; omega
        exact ⟨fun i x hx => hM.cell hx hnb, fun i => (show w5.frozen? ⟨w.heap.size + 1 + 1, i, none⟩ = _ from hM.frozen (show w.heap.size + 1 + 1 < _ from World.block_lt_of_cell? _ _ hS3.out.c1) hnb).trans (hS3.out.fr i)⟩)
      go_wp2_with (at_builtin; refine wpList_push rfl _ _ 23 rfl Try.underlying23 info4 rfl (.slice va bs.length vc) (bs.map Value.bool) (.bool z) rfl (by simpa using hS3.out.row) _ rfl (by exact hbx.out) rfl (by simp; omega) (by decide) (by have := hzz.out; simp at this ⊢; omega) ?_; intro v5 w5 ho5 hg5 hb5; obtain ⟨a5, c5, rfl⟩ := ownsRow_slice ho5; obtain ⟨e1, e2⟩ := hkeep.out w5 hg5; have e11 := e1 _ _ hS3.out.c1; have e21 := e2 1)
      have hE := Lib.hid (show Mk1 wc (w.heap.size + 1 + 1) (.slice a1 A.ranks.length c1) (.slice a5 (bs.length + 1) c5) (bs ++ [z]) (w5.setCell ⟨w.heap.size + 1 + 1, 1, none⟩ (.slice a5 (bs.length + 1) c5)) from by
        have hM := (Mut.refl (fun b => b = w.heap.size + 1 + 1) w5).setCell (p := ⟨w.heap.size + 1 + 1, 1, none⟩) (fun _ => rfl) (.slice a5 (bs.length + 1) c5)
        have hrw : w5.ownsRow wc.heap.size 4 1 (.slice a5 (bs.length + 1) c5) (bs ++ [z]).length ((bs ++ [z]).map Value.bool) := by simpa using ho5
        refine ⟨(hS3.out.fix.grown hg5 (fun k hk h => by have := (hS3.out.row.lt k hk).1; omega)).trans hM, ?_, World.cell?_setCell_same _ _ _ e11, ?_, fun i => by simpa using e2 i, ownsRow_mut hrw hM (fun k hk e => by have := (hrw.lt k hk).1; omega)⟩
        · rw [World.cell?_setCell_other _ _ _ _ (by simp)]; exact e1 _ _ hS3.out.c0
        · rw [World.cell?_setCell_other _ _ _ _ (by simp)]; exact e1 _ _ hS3.out.c2)
      clear ho5 hg5 hb5 hS3 hS hkeep e1 e2
      go_wp2
      refine NoPanic.normal ?_
      go_wp2
      go_roundw
      case rel => exact ⟨bs.length + 1, _, by omega, by go_num, by rw [hsn.out]; exact hE.out⟩
      case measure => simp [intOf]; omega
    · obtain rfl : j = l.length := by omega
      obtain ⟨va, vc, rfl⟩ := ownsRow_slice hM.row
      have hM0 := Lib.hid hM
      have hC := Lib.hid (show Mk2 wr (w.heap.size + 1 + 1) (.slice a1 A.ranks.length c1) (.slice va ((List.range l.length).map (keptF A l)).length vc) (.slice none 0 0) [] ((tablesOf l.length (keptT A l) A.ranks).take 0) wr from ⟨Mut.refl _ _, hM.c0, hM.c1, hM.c2, hM.fr, RowsO.nil _ _⟩)
      have hfw := Lib.hid (hcW.out.trans' hM.fix (fun i hi e => by omega))
      have hgd : w.heap.size + 1 + 1 < wr.heap.size := World.block_lt_of_cell? _ _ hM.c0
      have htl : (tablesOf l.length (keptT A l) A.ranks).length = A.ranks.length := by simp [tablesOf]
      have htab := Lib.hid (show ∀ (i : Nat) k, A.ranks[i]? = some k → (tablesOf l.length (keptT A l) A.ranks).take (i + 1) = (tablesOf l.length (keptT A l) A.ranks).take i ++ [tableOf l.length (keptT A l) i k] from fun i k hk => by
        have hi := (List.getElem?_eq_some_iff.1 hk).1
        rw [List.take_succ_eq_append_getElem (by rw [htl]; exact hi)]
        simp [tablesOf, List.getD, hk])
      have hmad := Lib.hid (show keptA A l = ⟨A.ranks, (List.range l.length).map (keptF A l), tablesOf l.length (keptT A l) A.ranks⟩ from rfl)
      have hbl0 : ((List.range l.length).map (keptF A l)).length = l.length := by simp
      generalize keptA A l = MA at *
      generalize hbs : (List.range l.length).map (keptF A l) = bs at *
      generalize tablesOf l.length (keptT A l) A.ranks = tb at *
      replace hbs := Lib.hid hbs
      replace htl := Lib.hid htl
      replace hbl0 := Lib.hid hbl0
      rename World => wd
      clear hM
      go_wp2
      go_loopw [7] (fun i wr => ∃ (q : Nat) (v3 : Value) (vs : List Value), q ≤ A.ranks.length ∧ i = .int .i64 q ∧ Mk2 wd (w.heap.size + 1 + 1) (.slice a1 A.ranks.length c1) (.slice va bs.length vc) v3 vs (tb.take q) wr) (fun i _ => A.ranks.length - (intOf i).toNat)
      case atStart => exact ⟨0, _, _, by omega, rfl, hC.out⟩
      case round =>
        clear hC
        obtain ⟨q, v3, vs, hq, rfl, hM⟩ := hrel
        obtain ⟨va4, vc4, rfl⟩ := ownsRow_slice hM.rows.own
        have hfq := Lib.hid (hfw.out.trans' hM.fix (fun i hi e => by omega))
        have hcr := hM0.out.fix.trans hM.fix
        have hBq := Lib.hid (show BoxA w.heap.size (.slice a1 A.ranks.length c1) (.slice a2 A.final.length c2) (.slice a3 A.to.length c3) wr from hBX.out.mut' hcr (by show ¬ w.heap.size = w.heap.size + 1 + 1; omega))
        by_cases hlt : q < A.ranks.length
        · obtain ⟨b, off, k, rfl, hk, hck⟩ := hA0.out.r.slot hfq.out hlt
          obtain ⟨hk0, hk2⟩ := hok.out.alpha.rng k (List.mem_of_getElem? hk)
          have hsn := Lib.hid (htab.out q k hk)
          have hM2 := Lib.hid hM
          have hwl := wideN_le hk2 hln
          obtain ⟨W, hW⟩ : ∃ W, W = wideN k l.length := ⟨_, rfl⟩
          have hfin : Bools (fun _ => False) wr (.slice va bs.length vc) bs := bools_of_own (ownsRow_mut hM0.out.row hM.fix (fun k hk e => by have := (hM0.out.row.lt k hk).1; omega)) (by simp)
          have hpl := Lib.hid (fun wz (m : Fix wr wz) => show Calls Try.prog 51 #[.agg #[.slice (some ⟨b, off, none⟩) A.ranks.length c1, .slice va bs.length vc, .slice va4 vs.length vc4], .int .i64 q] wz (RetPost wz (.int .i64 (W : Nat))) from by
            rw [hW]; exact places_of _ _ _ A.ranks bs (tb.take q) q l.length k wz ((hA0.out.r.fix hfq.out).fix m) (hfin.fix m) ((hM.rows.fix m).ints (by simp)) hk ⟨hk0, hk2⟩ hbl0.out hln)
          have hBz := Lib.hid (fun wz (m : Fix wr wz) => hBq.out.fix m)
          have hMz := Lib.hid (fun wz (m : Fix wr wz) => hM.fixed m)
          rw [← hW] at hwl
          have htq := Lib.hid (show ∀ p, p < W → (tableOf l.length (keptT A l) q k)[p]? = some (keptT A l q (digs l.length k.toNat p)) from fun p hp => by
            rw [hW] at hp
            simp [tableOf, hp])
          have htw := Lib.hid (show (tableOf l.length (keptT A l) q k).length = W by rw [hW]; simp [tableOf])
          generalize tableOf l.length (keptT A l) q k = tq at *
          have hl0' := Lib.hid (show wr.ownsRow wr.heap.size 3 1 (.slice none 0 0) 0 ((tq.take 0).map (Value.int .i64)) from World.ownsRow_nil _ _ _ _)
          replace hW := Lib.hid hW
          replace hk := Lib.hid hk
          have k0 := hBq.out.c0
          clear hM hfin hcr
          go_wp2
          rename World => wq
          go_loopw [9, 8] (fun i v wr => ∃ p : Nat, p ≤ W ∧ i = .int .i64 p ∧ Fix wq wr ∧ wr.ownsRow wq.heap.size 3 1 v p ((tq.take p).map (Value.int .i64))) (fun i _ _ => W - (intOf i).toNat)
          case atStart => exact ⟨0, by omega, rfl, Mut.refl _ _, hl0'.out⟩
          case round =>
            clear hl0' k0 hck
            obtain ⟨p, hp, rfl, hfp, hrow⟩ := hrel
            obtain ⟨va3, vc3, rfl⟩ := ownsRow_slice hrow
            obtain ⟨-, g0, g1, g2, -, -⟩ := hMz.out _ hfp
            have hpc := hpl.out _ hfp
            replace hfp := Lib.hid hfp
            replace hrow := Lib.hid hrow
            go_wp2_with fail
            refine hpc.mono ?_
            rintro e w2 ⟨rfl, m2⟩
            have hf2 := Lib.hid (hfp.out.trans m2)
            have hrw2 := Lib.hid (ownsRow_mut hrow.out m2 (by simp))
            clear g0 g1 g2 hpc hfp hrow m2
            by_cases hltp : p < W
            · have hfa := Lib.hid (hfq.out.trans hf2.out)
              obtain ⟨k0, k1, k2⟩ := hBz.out _ hf2.out
              obtain ⟨b9, off9, k', e9, hk', hck⟩ := hA0.out.r.slot hfa.out hlt
              simp only [Option.some.injEq, Addr.mk.injEq, and_true] at e9
              obtain ⟨rfl, rfl⟩ := e9
              obtain rfl : k = k' := by rw [hk.out] at hk'; exact Option.some.inj hk'
              have hpl2 : p ≤ 262144 := by omega
              have hdig := hsh.out.fits (i := q) (k := k) (ds := digs l.length k.toNat p) hk.out (by rw [digs_len]; omega) (digs_rng hlp _ _)
              have htv := htq.out p hltp
              have hsnp := Lib.hid (show (tq.take (p + 1)).map (Value.int .i64) = (tq.take p).map (Value.int .i64) ++ [.int .i64 (keptT A l q (digs l.length k.toNat p))] by
                obtain ⟨h2, h3⟩ := List.getElem?_eq_some_iff.1 htv
                rw [List.take_succ_eq_append_getElem h2, List.map_append, h3]; rfl)
              have hlp3 : ((tq.take p).map (Value.int .i64)).length = p := by simp [htw.out]; omega
              generalize (tq.take p).map (Value.int .i64) = cs at *
              subst hlp3
              rw [show keptT A l q (digs l.length k.toNat cs.length) = hasI l (atI A q ((digs l.length k.toNat cs.length).map fun d => l.getD d.toNat 0)) from rfl] at hsnp
              clear hk' htv
              rcases (show k = 0 ∨ k = 1 ∨ k = 2 by omega) with rfl | rfl | rfl
              · have hX : (digs l.length (0 : Int).toNat cs.length).map (fun d => l.getD d.toNat 0) = [] := by simp [digs]
                rw [hX] at hdig hsnp
                replace hX := Lib.hid hX
                replace hdig := Lib.hid hdig
                have hst := Lib.hid (fun wz vx (m : Fix w2 wz) (hx : Ints (fun _ => False) wz vx ([] : List Int)) => show Calls Try.prog 24 #[.agg #[.slice (some ⟨b, off, none⟩) A.ranks.length c1, .slice a2 A.final.length c2, .slice a3 A.to.length c3], .int .i64 q, vx] wz (fun e w' => e = .returned (.tuple #[.int .i64 (atI A q ([] : List Int)), .int .i64 0]) ∧ Fix wz w') from by
                  have h := rstep_any _ _ _ vx A q ([] : List Int) wz (hA0.out.fix (hfa.out.trans m)) hok.out hx
                  unfold StepPost at h
                  rw [stepE_fits hdig.out] at h
                  exact h)
                have hvx := Lib.hid (ints_nil w2)
                have hfx := Lib.hid (Mut.refl (fun _ => False) w2)
                go_wp2_with fail
                refine (hst.out _ _ hfx.out hvx.out).mono ?_
                rintro e w4 ⟨rfl, m4⟩
                generalize atI A q ([] : List Int) = r at *
                have hf4 := Lib.hid (hfx.out.trans m4)
                have hhas := Lib.hid (has_any _ l r w4 (hl0.out.fix (hfa.out.trans hf4.out)))
                clear m4 hst hvx hfx
                generalize hasI l r = hr at *
                go_wp2_with fail
                refine hhas.out.mono ?_
                rintro e w5 ⟨rfl, m5⟩
                have hf5 := Lib.hid (hf4.out.trans m5)
                have hfz2 := Lib.hid ((hf2.out.trans hf5.out).alloc (.cells #[.int .i64 hr] 3))
                have hrw3 := Lib.hid (ownsRow_mut hrw2.out (hf5.out.alloc (.cells #[.int .i64 hr] 3)) (by simp))
                have hbx := Lib.hid (cell_new1 w5 (.int .i64 hr) 3)
                have hzz := Lib.hid hfz2.out.size
                clear m5 hf4 hf5 hhas hrw2
                go_wp2_with (at_builtin; refine wpList_push rfl _ _ 22 rfl Try.underlying22 info3 rfl (.slice va3 cs.length vc3) cs (.int .i64 hr) rfl hrw3.out _ rfl (by exact hbx.out) rfl (by omega) (by decide) (by exact hzz.out) ?_; intro v5 w6 ho5 hg5 hb5; obtain ⟨a5, c5, rfl⟩ := ownsRow_slice ho5)
                have hE := Lib.hid (And.intro (Mut.grown hfz2.out hg5 (fun k hk h => by have := (hrw3.out.lt k hk).1; omega)) ho5)
                clear hg5 hb5 ho5
                go_wp2
                go_roundw
                case rel => exact ⟨cs.length + 1, by omega, by go_num, hE.out.1, by have h := hE.out.2; rw [hsnp.out]; simpa using h⟩
                case measure => simp [intOf]; omega
              · have hWn : W = l.length := by rw [hW.out]; simp [wideN]
                obtain ⟨b6, off6, y, rfl, hy, hcy⟩ := hl0.out.slot hfa.out (k := cs.length) (by omega)
                have hX : (digs l.length (1 : Int).toNat cs.length).map (fun d => l.getD d.toNat 0) = [y] := by
                  rw [show (1 : Int).toNat = 1 from rfl, digs1 (by omega)]; simp [List.getD, hy]
                rw [hX] at hdig hsnp
                replace hX := Lib.hid hX
                replace hWn := Lib.hid hWn
                have hcl : cs.length < l.length := by rw [← hWn.out]; exact hltp
                clear hy
                replace hdig := Lib.hid hdig
                have hst := Lib.hid (fun wz vx (m : Fix w2 wz) (hx : Ints (fun _ => False) wz vx [y]) => show Calls Try.prog 24 #[.agg #[.slice (some ⟨b, off, none⟩) A.ranks.length c1, .slice a2 A.final.length c2, .slice a3 A.to.length c3], .int .i64 q, vx] wz (fun e w' => e = .returned (.tuple #[.int .i64 (atI A q [y]), .int .i64 0]) ∧ Fix wz w') from by
                  have h := rstep_any _ _ _ vx A q [y] wz (hA0.out.fix (hfa.out.trans m)) hok.out hx
                  unfold StepPost at h
                  rw [stepE_fits hdig.out] at h
                  exact h)
                have hvx := Lib.hid (ints_new1 w2 y)
                have hfx := Lib.hid ((Mut.refl (fun _ => False) w2).alloc (.cells #[.int .i64 y] 3))
                replace k0 := hfx.out.cell k0 (by simp)
                replace k1 := hfx.out.cell k1 (by simp)
                replace k2 := hfx.out.cell k2 (by simp)
                have k0' := (hBz.out _ hf2.out).c0
                go_wp2_with fail
                refine (hst.out _ _ hfx.out hvx.out).mono ?_
                rintro e w4 ⟨rfl, m4⟩
                generalize atI A q [y] = r at *
                have hf4 := Lib.hid (hfx.out.trans m4)
                have hhas := Lib.hid (has_any _ l r w4 (hl0.out.fix (hfa.out.trans hf4.out)))
                clear m4 hst hvx hfx
                generalize hasI l r = hr at *
                go_wp2_with fail
                refine hhas.out.mono ?_
                rintro e w5 ⟨rfl, m5⟩
                have hf5 := Lib.hid (hf4.out.trans m5)
                have hfz2 := Lib.hid ((hf2.out.trans hf5.out).alloc (.cells #[.int .i64 hr] 3))
                have hrw3 := Lib.hid (ownsRow_mut hrw2.out (hf5.out.alloc (.cells #[.int .i64 hr] 3)) (by simp))
                have hbx := Lib.hid (cell_new1 w5 (.int .i64 hr) 3)
                have hzz := Lib.hid hfz2.out.size
                clear m5 hf4 hf5 hhas hrw2
                go_wp2_with (at_builtin; refine wpList_push rfl _ _ 22 rfl Try.underlying22 info3 rfl (.slice va3 cs.length vc3) cs (.int .i64 hr) rfl hrw3.out _ rfl (by exact hbx.out) rfl (by omega) (by decide) (by exact hzz.out) ?_; intro v5 w6 ho5 hg5 hb5; obtain ⟨a5, c5, rfl⟩ := ownsRow_slice ho5)
                have hE := Lib.hid (And.intro (Mut.grown hfz2.out hg5 (fun k hk h => by have := (hrw3.out.lt k hk).1; omega)) ho5)
                clear hg5 hb5 ho5
                go_wp2
                go_roundw
                case rel => exact ⟨cs.length + 1, by omega, by go_num, hE.out.1, by have h := hE.out.2; rw [hsnp.out]; simpa using h⟩
                case measure => simp [intOf]; omega
              · have hWn : W = l.length * l.length := by rw [hW.out]; simp [wideN, Nat.pow_succ]
                have hdv : cs.length / l.length < l.length := Nat.div_lt_of_lt_mul (by rw [← hWn]; exact hltp)
                have hmd : cs.length % l.length < l.length := Nat.mod_lt _ hlp
                obtain ⟨b6, off6, y, e6, hy, hcy⟩ := hl0.out.slot hfa.out (k := cs.length / l.length) hdv
                obtain ⟨b8, off8, y2, rfl, hy2, hcy2⟩ := hl0.out.slot hfa.out (k := cs.length % l.length) hmd
                simp only [Option.some.injEq, Addr.mk.injEq, and_true] at e6
                obtain ⟨rfl, rfl⟩ := e6
                have hX : (digs l.length (2 : Int).toNat cs.length).map (fun d => l.getD d.toNat 0) = [y, y2] := by
                  rw [show (2 : Int).toNat = 2 from rfl, digs2 (by omega)]
                  simp only [List.map_cons, List.map_nil, Int.toNat_natCast]
                  simp [List.getD, hy, hy2]
                rw [hX] at hdig hsnp
                replace hX := Lib.hid hX
                replace hWn := Lib.hid hWn
                obtain ⟨D, hD⟩ : ∃ D, D = cs.length / l.length := ⟨_, rfl⟩
                obtain ⟨R, hR⟩ : ∃ R, R = cs.length % l.length := ⟨_, rfl⟩
                have hDi : (cs.length : Int) / (l.length : Int) = (D : Int) := by rw [hD, Int.natCast_ediv]
                have hRi : (cs.length : Int) % (l.length : Int) = (R : Int) := by rw [hR, Int.natCast_emod]
                rw [← hD] at hcy hdv
                rw [← hR] at hcy2 hmd
                replace hD := Lib.hid hD
                replace hR := Lib.hid hR
                clear hy hy2
                replace hdig := Lib.hid hdig
                have hst := Lib.hid (fun wz vx (m : Fix w2 wz) (hx : Ints (fun _ => False) wz vx [y, y2]) => show Calls Try.prog 24 #[.agg #[.slice (some ⟨b, off, none⟩) A.ranks.length c1, .slice a2 A.final.length c2, .slice a3 A.to.length c3], .int .i64 q, vx] wz (fun e w' => e = .returned (.tuple #[.int .i64 (atI A q [y, y2]), .int .i64 0]) ∧ Fix wz w') from by
                  have h := rstep_any _ _ _ vx A q [y, y2] wz (hA0.out.fix (hfa.out.trans m)) hok.out hx
                  unfold StepPost at h
                  rw [stepE_fits hdig.out] at h
                  exact h)
                have hvx := Lib.hid (fun wz => ints_new2 wz y y2)
                have hS := Lib.hid (Mut.refl (fun _ => False) w2).drew
                have hne := Cls.ne hS.out
                go_wp2
                refine wp_plan (Fix w2) [0, 1, 2, 3, 4, 5, 6, 7, 8, 9, 10, 11, 12, 13] [([0, 1, 2, 3, 4, 5, 6, 7, 8, 9, 10, 11, 12, 13], none)] [14, 15] (by kernel_rfl) (by kernel_rfl) ?_
                refine ⟨Of.mk hS.out, ?_⟩
                simp only [wpPlan, pickOps_cons, pickOps_nil, List.getElem?_cons_zero, List.getElem?_cons_succ, pickOp_some]
                have s0 := fun x : Cls (Fix w2) => x.ok.cell hcy (by simp)
                have s1 := fun x : Cls (Fix w2) => x.ok.cell hcy2 (by simp)
                repeat (go_big_quiet_step (fail))
                refine wpQuiet_nil ?_
                clear s0 s1
                generalize w2.drew = w2d at *
                go_wp2
                refine NoPanic.normal ?_
                have hfx := Lib.hid (hS.out.alloc (.cells #[.int .i64 y, .int .i64 y2] 3))
                replace k0 := hfx.out.cell k0 (by simp)
                replace k1 := hfx.out.cell k1 (by simp)
                replace k2 := hfx.out.cell k2 (by simp)
                replace hvx := Lib.hid (hvx.out w2d)
                go_wp2_with fail
                refine (hst.out _ _ hfx.out hvx.out).mono ?_
                rintro e w4 ⟨rfl, m4⟩
                generalize atI A q [y, y2] = r at *
                have hf4 := Lib.hid (hfx.out.trans m4)
                have hhas := Lib.hid (has_any _ l r w4 (hl0.out.fix (hfa.out.trans hf4.out)))
                clear m4 hst hvx hfx
                generalize hasI l r = hr at *
                go_wp2_with fail
                refine hhas.out.mono ?_
                rintro e w5 ⟨rfl, m5⟩
                have hf5 := Lib.hid (hf4.out.trans m5)
                have hfz2 := Lib.hid ((hf2.out.trans hf5.out).alloc (.cells #[.int .i64 hr] 3))
                have hrw3 := Lib.hid (ownsRow_mut hrw2.out (hf5.out.alloc (.cells #[.int .i64 hr] 3)) (by simp))
                have hbx := Lib.hid (cell_new1 w5 (.int .i64 hr) 3)
                have hzz := Lib.hid hfz2.out.size
                clear m5 hf4 hf5 hhas hrw2
                go_wp2_with (at_builtin; refine wpList_push rfl _ _ 22 rfl Try.underlying22 info3 rfl (.slice va3 cs.length vc3) cs (.int .i64 hr) rfl hrw3.out _ rfl (by exact hbx.out) rfl (by omega) (by decide) (by exact hzz.out) ?_; intro v5 w6 ho5 hg5 hb5; obtain ⟨a5, c5, rfl⟩ := ownsRow_slice ho5)
                have hE := Lib.hid (And.intro (Mut.grown hfz2.out hg5 (fun k hk h => by have := (hrw3.out.lt k hk).1; omega)) ho5)
                clear hg5 hb5 ho5
                go_wp2
                go_roundw
                case rel => exact ⟨cs.length + 1, by omega, by go_num, hE.out.1, by have h := hE.out.2; rw [hsnp.out]; simpa using h⟩
                case measure => simp [intOf]; omega
            · obtain rfl : p = W := by omega
              have htk : tq.take p = tq := by rw [← htw.out]; exact List.take_length
              rw [htk] at hrw2
              have hzd := hM2.out.fix.size
              have hqz : vs.length < 1099511627776 := by
                have h1 := hM2.out.rows.len
                rw [List.length_take] at h1
                omega
              have hlt2 : tq.length = p := htw.out
              have hS2 := hM2.out.fixed hf2.out
              have hrow2 := own_base hrw2.out hzd
              have hfr2 := hS2.fr 2
              have hc2 := hS2.c2
              have hS3 := Lib.hid (hS2.fixed ((Mut.refl _ w2).alloc (.cells #[.slice va3 p vc3] 22)))
              have o2 := Lib.hid (ownsRow_mut hrow2 ((Mut.refl (fun _ => False) w2).alloc (.cells #[.slice va3 p vc3] 22)) (by simp))
              have hbx := Lib.hid (cell_new1 w2 (.slice va3 p vc3) 22)
              have hzz := Lib.hid hS3.out.fix.size
              have hsn2 := Lib.hid (show tb.take (q + 1) = tb.take q ++ [tq] from hsn.out)
              generalize htq0 : tb.take q = tbq at *
              have hkeep := Lib.hid (fun w5 (hg : (w2.alloc (.cells #[.slice va3 p vc3] 22)).grownBy w5 (Value.slice va4 vs.length vc4).ownBlock) => show w5.cell? ⟨w.heap.size + 1 + 1, 2, none⟩ = some (.slice va4 vs.length vc4) ∧ (∀ i, w5.frozen? ⟨w.heap.size + 1 + 1, i, none⟩ = false) ∧ w5.cell? ⟨w.heap.size + 1 + 1, 0, none⟩ = some (.slice (some ⟨b, off, none⟩) A.ranks.length c1) ∧ w5.cell? ⟨w.heap.size + 1 + 1, 1, none⟩ = some (.slice va bs.length vc) from by
                have hM := (Mut.refl (fun k => (Value.slice va4 vs.length vc4).ownBlock = some k) _).grown hg (fun k hk _ => hk)
                have hnb : ¬ (Value.slice va4 vs.length vc4).ownBlock = some (w.heap.size + 1 + 1) := fun e => by have := (hS3.out.rows.own.lt _ e).1; omega
                exact ⟨hM.cell hS3.out.c2 hnb, fun i => (show w5.frozen? ⟨w.heap.size + 1 + 1, i, none⟩ = _ from hM.frozen (show w.heap.size + 1 + 1 < _ from World.block_lt_of_cell? _ _ hS3.out.c2) hnb).trans (hS3.out.fr i), hM.cell hS3.out.c0 hnb, hM.cell hS3.out.c1 hnb⟩)
              clear hS2 hrow2 hrw2 hf2 hsn htq htk hpl hBz hMz
              go_wp2_with (at_builtin; refine wpList_push rfl _ _ 24 rfl Try.underlying24 info22 rfl (.slice va4 vs.length vc4) vs (.slice va3 p vc3) rfl hS3.out.rows.own _ rfl (by exact hbx.out) rfl hqz (by decide) (by have := hzz.out; omega) ?_; intro v5 w5 ho5 hg5 hb5; obtain ⟨a5, c5, rfl⟩ := ownsRow_slice ho5; obtain ⟨e1, e2, e3, e4⟩ := hkeep.out w5 hg5; have e21 := e2 2)
              have hE := Lib.hid (show Mk2 wd (w.heap.size + 1 + 1) (.slice (some ⟨b, off, none⟩) A.ranks.length c1) (.slice va bs.length vc) (.slice a5 (vs ++ [Value.slice va3 p vc3]).length c5) (vs ++ [Value.slice va3 p vc3]) (tbq ++ [tq]) (w5.setCell ⟨w.heap.size + 1 + 1, 2, none⟩ (.slice a5 (vs ++ [Value.slice va3 p vc3]).length c5)) from by
                have hrw := hS3.out.rows.push (by rw [hlt2]; exact o2.out) ho5 hg5
                have hM := (Mut.refl (fun b => b = w.heap.size + 1 + 1) w5).setCell (p := ⟨w.heap.size + 1 + 1, 2, none⟩) (fun _ => rfl) (.slice a5 (vs ++ [Value.slice va3 p vc3]).length c5)
                refine ⟨(hS3.out.fix.grown hg5 (fun k hk h => by have := (hS3.out.rows.own.lt k hk).1; omega)).trans hM, ?_, ?_, World.cell?_setCell_same _ _ _ e1, fun i => by simpa using e2 i, hrw.mut hM (fun k hk _ e => by omega)⟩
                · rw [World.cell?_setCell_other _ _ _ _ (by simp)]; exact e3
                · rw [World.cell?_setCell_other _ _ _ _ (by simp)]; exact e4)
              clear ho5 hg5 hb5 hS3 o2 hkeep e3 e4 e2
              go_wp2
              go_roundw
              case rel => exact ⟨q + 1, _, _, by omega, by go_num, by rw [hsn2.out]; have h := hE.out; rw [show (vs ++ [Value.slice va3 p vc3]).length = vs.length + 1 from by simp] at h; exact h⟩
              case measure => simp [intOf]; omega
        · obtain rfl : q = A.ranks.length := by omega
          have htk : tb.take A.ranks.length = tb := by rw [← htl.out]; exact List.take_length
          rw [htk] at hM
          have hrw := hM.rows
          have ho0 := hM.c0
          have ho1 := hM.c1
          have ho2 := hM.c2
          have hzc := hM0.out.fix.size
          have hr := hRR.out.mut' hcr (by show ¬ w.heap.size + 1 = w.heap.size + 1 + 1; omega)
          have keyf : ∀ i, wr.frozen? ⟨w.heap.size + 1, i, none⟩ = false := fun i =>
            (show wr.frozen? ⟨w.heap.size + 1, i, none⟩ = _ from hcr.frozen (a := ⟨w.heap.size + 1, i, none⟩) (by show w.heap.size + 1 < _; omega) (by show ¬ w.heap.size + 1 = w.heap.size + 1 + 1; omega)).trans (hRf.out i)
          obtain ⟨hr0, hr1, hr2⟩ := hr
          have hf0 := keyf 0
          have hf1 := keyf 1
          have hf2 := keyf 2
          have hb0 := hBq.out.c0
          have hE : KeptPost w (.slice a1 A.ranks.length c1) MA (.returned (.agg #[.slice a1 A.ranks.length c1, .slice va bs.length vc, .slice va4 vs.length vc4])) (((wr.setCell ⟨w.heap.size + 1, 0, none⟩ (.slice a1 A.ranks.length c1)).setCell ⟨w.heap.size + 1, 1, none⟩ (.slice va bs.length vc)).setCell ⟨w.heap.size + 1, 2, none⟩ (.slice va4 vs.length vc4)) := by
            have hMM := (((Mut.refl (fun b => b = w.heap.size + 1) wr).setCell (p := ⟨w.heap.size + 1, 0, none⟩) (fun _ => rfl) (.slice a1 A.ranks.length c1)).setCell (p := ⟨w.heap.size + 1, 1, none⟩) (fun _ => rfl) (.slice va bs.length vc)).setCell (p := ⟨w.heap.size + 1, 2, none⟩) (fun _ => rfl) (.slice va4 vs.length vc4)
            have hFF := hfq.out.trans' hMM (fun i hi e => by omega)
            have f1 := ownsRow_mut hM0.out.row hM.fix (fun k hk e => by have := (hM0.out.row.lt k hk).1; omega)
            have f2 := ownsRow_mut f1 hMM (fun k hk e => by have := (f1.lt k hk).1; omega)
            have r5 := hrw.mut hMM (fun k hk _ e => by omega)
            rw [hmad.out]
            have hzw := hfw.out.size
            exact ⟨_, _, rfl, fun M hM hR => ⟨hR.fix hFF, bools_of_own f2 (fun b hb e => by have := hM b e; omega), r5.ints (fun b hb e => by have := hM b e; omega)⟩, hFF⟩
          replace hE := Lib.hid hE
          clear keyf hM hrw hcr
          go_wp2
          exact bodyPost_ret (v := .agg #[.slice a1 A.ranks.length c1, .slice va bs.length vc, .slice va4 vs.length vc4]) (by simp [results, Try.results39, go_sem, ho0, ho1, ho2, hr0, hr1, hr2]) rfl hE.out
end Go.Proofs.Ytdakoccbmeojhaa
