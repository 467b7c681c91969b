/- PartitionLattice returns true. Condition: the three arguments read as lists of pairs. -/
import Derived.Test.YtojfpobgncapjaaLb
set_option linter.unusedSimpArgs false
set_option linter.unusedVariables false
set_option maxHeartbeats 400000
namespace Go.Proofs.Ytojfpobgncapjaa
open Go Go.RowKit Go.PP

theorem Pairs.open {w : World} {v : Value} {ps : List (Int × Int)} (h : Pairs w v ps) : ∃ a c, v = .slice a ps.length c := by
  obtain ⟨a, c, h, _⟩ := h; exact ⟨a, c, h⟩
theorem Pairs.mut {w w' : World} {v : Value} {ps : List (Int × Int)} (h : Pairs w v ps) (hm : Mut (fun _ => False) w w') : Pairs w' v ps := by
  obtain ⟨a, c, h1, h2, h3⟩ := h
  refine ⟨a, c, h1, h2, fun i hi => ?_⟩
  obtain ⟨b, off, x, y, q1, q2, q3, q4⟩ := h3 i hi
  exact ⟨b, off, x, y, q1, q2, hm.cell q3 (by simp), hm.cell q4 (by simp)⟩

theorem box_at (w : World) (cs : Array Value) (t i : Nat) (v : Value) (h : cs[i]? = some v) : (w.alloc (.cells cs t)).cell? ⟨w.heap.size, i, none⟩ = some v := by
  have h0 := heap_alloc_new w (.cells cs t)
  simp only [World.cell?]; rw [h0]; exact h

set_option maxRecDepth 8000 in
theorem lattice_no (n : Int) (va vb vc : Value) (pa pb pc : List (Int × Int)) (w : World) (hpa : Pairs w va pa) (hpb : Pairs w vb pb) (hpc : Pairs w vc pc) (h : n < 0 ∨ 40 < n) : Calls Try.prog 6 #[.int .i64 n, .agg #[va, vb, vc]] w (TruePost w) := by
  obtain ⟨a1, c1, rfl⟩ := hpa.open
  obtain ⟨a2, c2, rfl⟩ := hpb.open
  obtain ⟨a3, c3, rfl⟩ := hpc.open
  clear hpa hpb hpc
  replace h := Lib.hid h
  obtain ⟨bx, hbx⟩ : ∃ bx, bx = w.heap.size := ⟨_, rfl⟩
  have k1 := box_at w #[.slice a1 pa.length c1, .slice a2 pb.length c2, .slice a3 pc.length c3] 50 1 _ rfl
  have k2 := box_at w #[.slice a1 pa.length c1, .slice a2 pb.length c2, .slice a3 pc.length c3] 50 2 _ rfl
  have hm0 := Lib.hid ((Mut.refl (fun _ => False) w).alloc (.cells #[.slice a1 pa.length c1, .slice a2 pb.length c2, .slice a3 pc.length c3] 50))
  go_enter Try.func6, Try.ntmps6
  go_wp2_with fail
  refine (made_no n _ _ h.out).mono ?_
  rintro e w1 ⟨rfl, hm1⟩
  replace k1 := hm1.cell k1 (by simp)
  replace k2 := hm1.cell k2 (by simp)
  replace hm0 := Lib.hid (hm0.out.trans hm1)
  clear hm1
  go_wp2_with fail
  refine (made_no n _ _ h.out).mono ?_
  rintro e w2 ⟨rfl, hm1⟩
  replace k2 := hm1.cell k2 (by simp)
  replace hm0 := Lib.hid (hm0.out.trans hm1)
  clear hm1 k1
  go_wp2_with fail
  refine (made_no n _ _ h.out).mono ?_
  rintro e w3 ⟨rfl, hm1⟩
  replace hm0 := Lib.hid (hm0.out.trans hm1)
  clear hm1 k2
  go_wp2_with fail
  refine (known_any _).mono ?_
  rintro e w4 ⟨rfl, hm1⟩
  replace hm0 := Lib.hid (hm0.out.trans hm1)
  clear hm1
  go_wp2
  go_ret
  exact ⟨rfl, hm0.out⟩

set_option maxRecDepth 8000 in
set_option maxHeartbeats 16000000 in
theorem lattice_yes (n : Nat) (va vb vc : Value) (pa pb pc : List (Int × Int)) (w : World) (hpa : Pairs w va pa) (hpb : Pairs w vb pb) (hpc : Pairs w vc pc) (hn : n ≤ 40) : Calls Try.prog 6 #[.int .i64 n, .agg #[va, vb, vc]] w (TruePost w) := by
  have qa := Lib.hid hpa
  have qb := Lib.hid hpb
  have qc := Lib.hid hpc
  obtain ⟨a1, c1, rfl⟩ := hpa.open
  obtain ⟨a2, c2, rfl⟩ := hpb.open
  obtain ⟨a3, c3, rfl⟩ := hpc.open
  clear hpa hpb hpc
  have k1 := box_at w #[.slice a1 pa.length c1, .slice a2 pb.length c2, .slice a3 pc.length c3] 50 1 _ rfl
  have k2 := box_at w #[.slice a1 pa.length c1, .slice a2 pb.length c2, .slice a3 pc.length c3] 50 2 _ rfl
  have hm0 := (Mut.refl (fun _ => False) w).alloc (.cells #[.slice a1 pa.length c1, .slice a2 pb.length c2, .slice a3 pc.length c3] 50)
  have hA := Lib.hid ((All.start w).quiet hm0)
  replace hm0 := Lib.hid hm0
  have gA := Lib.hid (GoodR.fold (n := n) pa (min pa.length 60))
  have gB := Lib.hid (GoodR.fold (n := n) pb (min pb.length 60))
  have gC := Lib.hid (GoodR.fold (n := n) pc (min pc.length 60))
  go_enter Try.func6, Try.ntmps6
  go_wp2_with fail
  refine (made_all hA.out hn (qa.out.mut hm0.out)).mono ?_
  rintro e w1 ⟨p1, u1, v1, rfl, hA1, hm1⟩
  replace k1 := hm1.cell k1 (by simp)
  replace k2 := hm1.cell k2 (by simp)
  replace hm0 := Lib.hid (hm0.out.trans hm1)
  replace hA1 := Lib.hid hA1
  obtain ⟨ra, rc, rfl⟩ := hA1.out.slice 0 rfl
  clear hm1 hA
  go_wp2_with fail
  refine (made_all hA1.out hn (qb.out.mut hm0.out)).mono ?_
  rintro e w2 ⟨p2, u2, v2, rfl, hA2, hm1⟩
  replace k2 := hm1.cell k2 (by simp)
  replace hm0 := Lib.hid (hm0.out.trans hm1)
  replace hA2 := Lib.hid hA2
  obtain ⟨sa, sc, rfl⟩ := hA2.out.slice 1 rfl
  clear hm1 hA1 k1
  go_wp2_with fail
  refine (made_all hA2.out hn (qc.out.mut hm0.out)).mono ?_
  rintro e w3 ⟨p3, u3, v3, rfl, hA3, hm1⟩
  replace hA3 := Lib.hid hA3
  obtain ⟨ta, tc, rfl⟩ := hA3.out.slice 2 rfl
  clear hm1 hA2 k2 hm0 qa qb qc
  generalize foldP n pa (min pa.length 60) = A at *
  generalize foldP n pb (min pb.length 60) = B at *
  generalize foldP n pc (min pc.length 60) = C at *
  go_wp2_with fail
  refine (meet_all hA3.out 0 1 rfl rfl (by decide) rfl).mono ?_
  rintro e w4 ⟨p4, u4, X, rfl, hX, hA4⟩
  replace hA4 := Lib.hid hA4
  replace hX := Lib.hid hX
  clear hA3
  go_wp2_with fail
  refine (join_all hA4.out 0 1 rfl rfl (by decide) rfl).mono ?_
  rintro e w5 ⟨p5, u5, rfl, hA5⟩
  replace hA5 := Lib.hid hA5
  have gX := Lib.hid (hA4.out.get (i := 3) rfl).good
  have gY := Lib.hid (gA.out.over B n)
  have hYA := Lib.hid (join_left (V := B) gA.out)
  have hYB := Lib.hid (join_right gA.out gB.out)
  have hfin := Lib.hid (fun h => join_finest (C := C) gA.out gB.out h)
  have hcoa := Lib.hid (fun h => meet_coarsest gA.out gB.out gC.out hX.out h)
  clear hA4
  generalize overTo n A B n = Y at *
  -- c refines a: true, a refines c: true
  -- c refines a: true, a refines c: false
  -- c refines a: false, a refines c: true
  -- c refines a: false, a refines c: false
  cases hca : refB n C A
  case false =>
   replace hca := Lib.hid hca
   cases hac : refB n A C
   case false =>
    replace hac := Lib.hid hac
    go_wp2_with fail
    refine (refines_all hA5.out 2 0 rfl rfl (by decide) rfl).mono ?_
    rw [hca.out]
    rintro e whB0 ⟨rfl, hB0⟩
    replace hB0 := Lib.hid hB0
    clear hA5
    go_wp2_with fail
    refine (refines_all hB0.out 0 2 rfl rfl (by decide) rfl).mono ?_
    rw [hac.out]
    rintro e whB3 ⟨rfl, hB3⟩
    replace hB3 := Lib.hid hB3
    clear hB0
    have hZ := hB3
    clear hB3
    go_wp2_with fail
    refine (meet_all hZ.out 2 3 rfl rfl (by decide) rfl).mono ?_
    rintro e w6 ⟨p6, u6, Z, rfl, hZ2, hA6⟩
    have hZX := Lib.hid (refB_by2 hZ2)
    have gZ := Lib.hid (hA6.get (i := 5) rfl).good
    have t1 := Lib.hid (refB_trans gZ.out hZX.out (refB_by hX.out))
    have t2 := Lib.hid (refB_trans gZ.out hZX.out (refB_by2 hX.out))
    replace hA6 := Lib.hid hA6
    clear hZ hZ2
    go_wp2_with fail
    refine (join_all hA6.out 2 4 rfl rfl (by decide) rfl).mono ?_
    rintro e w7 ⟨p7, u7, rfl, hA7⟩
    replace hA7 := Lib.hid hA7
    have hYU := Lib.hid (join_right gC.out gY.out)
    have t3 := Lib.hid (refB_trans gA.out hYA.out hYU.out)
    have t4 := Lib.hid (refB_trans gB.out hYB.out hYU.out)
    clear hA6
    generalize overTo n C Y n = U at *
    go_wp2_with fail
    refine (refines_all hA7.out 5 0 rfl rfl (by decide) rfl).mono ?_
    rw [t1.out]
    rintro e w8 ⟨rfl, hA8⟩
    replace hA8 := Lib.hid hA8
    clear hA7
    go_wp2_with fail
    refine (refines_all hA8.out 5 1 rfl rfl (by decide) rfl).mono ?_
    rw [t2.out]
    rintro e w9 ⟨rfl, hA9⟩
    replace hA9 := Lib.hid hA9
    clear hA8
    go_wp2_with fail
    refine (refines_all hA9.out 0 6 rfl rfl (by decide) rfl).mono ?_
    rw [t3.out]
    rintro e w10 ⟨rfl, hA10⟩
    replace hA10 := Lib.hid hA10
    clear hA9
    go_wp2_with fail
    refine (refines_all hA10.out 1 6 rfl rfl (by decide) rfl).mono ?_
    rw [t4.out]
    rintro e w11 ⟨rfl, hA11⟩
    replace hA11 := Lib.hid hA11
    clear hA10
    go_wp2_with fail
    refine (known_all hA11.out).mono ?_
    rintro e w12 ⟨rfl, hA12⟩
    have hE := Lib.hid hA12.mu
    clear hA11 hA12
    go_wp2
    go_ret
    exact ⟨rfl, hE.out⟩
   case true =>
    replace hac := Lib.hid hac
    go_wp2_with fail
    refine (refines_all hA5.out 2 0 rfl rfl (by decide) rfl).mono ?_
    rw [hca.out]
    rintro e whB0 ⟨rfl, hB0⟩
    replace hB0 := Lib.hid hB0
    clear hA5
    go_wp2_with fail
    refine (refines_all hB0.out 0 2 rfl rfl (by decide) rfl).mono ?_
    rw [hac.out]
    rintro e whB3 ⟨rfl, hB3⟩
    replace hB3 := Lib.hid hB3
    clear hB0
    have e2 := hfin.out hac.out
    replace e2 := Lib.hid e2
    have hbb2 : (refB n Y C != refB n Y C) = false := by simp
    go_wp2_with fail
    refine (refines_all hB3.out 1 2 rfl rfl (by decide) rfl).mono ?_
    rw [e2.out]
    rintro e whB4 ⟨rfl, hB4⟩
    replace hB4 := Lib.hid hB4
    clear hB3
    go_wp2_with fail
    refine (refines_all hB4.out 4 2 rfl rfl (by decide) rfl).mono ?_
    rintro e whZ ⟨rfl, hZ⟩
    replace hZ := Lib.hid hZ
    clear hB4
    generalize refB n Y C = bq2 at *
    go_wp2_with fail
    refine (meet_all hZ.out 2 3 rfl rfl (by decide) rfl).mono ?_
    rintro e w6 ⟨p6, u6, Z, rfl, hZ2, hA6⟩
    have hZX := Lib.hid (refB_by2 hZ2)
    have gZ := Lib.hid (hA6.get (i := 5) rfl).good
    have t1 := Lib.hid (refB_trans gZ.out hZX.out (refB_by hX.out))
    have t2 := Lib.hid (refB_trans gZ.out hZX.out (refB_by2 hX.out))
    replace hA6 := Lib.hid hA6
    clear hZ hZ2
    go_wp2_with fail
    refine (join_all hA6.out 2 4 rfl rfl (by decide) rfl).mono ?_
    rintro e w7 ⟨p7, u7, rfl, hA7⟩
    replace hA7 := Lib.hid hA7
    have hYU := Lib.hid (join_right gC.out gY.out)
    have t3 := Lib.hid (refB_trans gA.out hYA.out hYU.out)
    have t4 := Lib.hid (refB_trans gB.out hYB.out hYU.out)
    clear hA6
    generalize overTo n C Y n = U at *
    go_wp2_with fail
    refine (refines_all hA7.out 5 0 rfl rfl (by decide) rfl).mono ?_
    rw [t1.out]
    rintro e w8 ⟨rfl, hA8⟩
    replace hA8 := Lib.hid hA8
    clear hA7
    go_wp2_with fail
    refine (refines_all hA8.out 5 1 rfl rfl (by decide) rfl).mono ?_
    rw [t2.out]
    rintro e w9 ⟨rfl, hA9⟩
    replace hA9 := Lib.hid hA9
    clear hA8
    go_wp2_with fail
    refine (refines_all hA9.out 0 6 rfl rfl (by decide) rfl).mono ?_
    rw [t3.out]
    rintro e w10 ⟨rfl, hA10⟩
    replace hA10 := Lib.hid hA10
    clear hA9
    go_wp2_with fail
    refine (refines_all hA10.out 1 6 rfl rfl (by decide) rfl).mono ?_
    rw [t4.out]
    rintro e w11 ⟨rfl, hA11⟩
    replace hA11 := Lib.hid hA11
    clear hA10
    go_wp2_with fail
    refine (known_all hA11.out).mono ?_
    rintro e w12 ⟨rfl, hA12⟩
    have hE := Lib.hid hA12.mu
    clear hA11 hA12
    go_wp2
    go_ret
    exact ⟨rfl, hE.out⟩
  case true =>
   replace hca := Lib.hid hca
   cases hac : refB n A C
   case false =>
    replace hac := Lib.hid hac
    go_wp2_with fail
    refine (refines_all hA5.out 2 0 rfl rfl (by decide) rfl).mono ?_
    rw [hca.out]
    rintro e whB0 ⟨rfl, hB0⟩
    replace hB0 := Lib.hid hB0
    clear hA5
    have e1 := hcoa.out hca.out
    replace e1 := Lib.hid e1
    have hbb : (refB n C X != refB n C X) = false := by simp
    go_wp2_with fail
    refine (refines_all hB0.out 2 1 rfl rfl (by decide) rfl).mono ?_
    rw [e1.out]
    rintro e whB1 ⟨rfl, hB1⟩
    replace hB1 := Lib.hid hB1
    clear hB0
    go_wp2_with fail
    refine (refines_all hB1.out 2 3 rfl rfl (by decide) rfl).mono ?_
    rintro e whB2 ⟨rfl, hB2⟩
    replace hB2 := Lib.hid hB2
    clear hB1
    generalize refB n C X = bq at *
    go_wp2_with fail
    refine (refines_all hB2.out 0 2 rfl rfl (by decide) rfl).mono ?_
    rw [hac.out]
    rintro e whB3 ⟨rfl, hB3⟩
    replace hB3 := Lib.hid hB3
    clear hB2
    have hZ := hB3
    clear hB3
    go_wp2_with fail
    refine (meet_all hZ.out 2 3 rfl rfl (by decide) rfl).mono ?_
    rintro e w6 ⟨p6, u6, Z, rfl, hZ2, hA6⟩
    have hZX := Lib.hid (refB_by2 hZ2)
    have gZ := Lib.hid (hA6.get (i := 5) rfl).good
    have t1 := Lib.hid (refB_trans gZ.out hZX.out (refB_by hX.out))
    have t2 := Lib.hid (refB_trans gZ.out hZX.out (refB_by2 hX.out))
    replace hA6 := Lib.hid hA6
    clear hZ hZ2
    go_wp2_with fail
    refine (join_all hA6.out 2 4 rfl rfl (by decide) rfl).mono ?_
    rintro e w7 ⟨p7, u7, rfl, hA7⟩
    replace hA7 := Lib.hid hA7
    have hYU := Lib.hid (join_right gC.out gY.out)
    have t3 := Lib.hid (refB_trans gA.out hYA.out hYU.out)
    have t4 := Lib.hid (refB_trans gB.out hYB.out hYU.out)
    clear hA6
    generalize overTo n C Y n = U at *
    go_wp2_with fail
    refine (refines_all hA7.out 5 0 rfl rfl (by decide) rfl).mono ?_
    rw [t1.out]
    rintro e w8 ⟨rfl, hA8⟩
    replace hA8 := Lib.hid hA8
    clear hA7
    go_wp2_with fail
    refine (refines_all hA8.out 5 1 rfl rfl (by decide) rfl).mono ?_
    rw [t2.out]
    rintro e w9 ⟨rfl, hA9⟩
    replace hA9 := Lib.hid hA9
    clear hA8
    go_wp2_with fail
    refine (refines_all hA9.out 0 6 rfl rfl (by decide) rfl).mono ?_
    rw [t3.out]
    rintro e w10 ⟨rfl, hA10⟩
    replace hA10 := Lib.hid hA10
    clear hA9
    go_wp2_with fail
    refine (refines_all hA10.out 1 6 rfl rfl (by decide) rfl).mono ?_
    rw [t4.out]
    rintro e w11 ⟨rfl, hA11⟩
    replace hA11 := Lib.hid hA11
    clear hA10
    go_wp2_with fail
    refine (known_all hA11.out).mono ?_
    rintro e w12 ⟨rfl, hA12⟩
    have hE := Lib.hid hA12.mu
    clear hA11 hA12
    go_wp2
    go_ret
    exact ⟨rfl, hE.out⟩
   case true =>
    replace hac := Lib.hid hac
    go_wp2_with fail
    refine (refines_all hA5.out 2 0 rfl rfl (by decide) rfl).mono ?_
    rw [hca.out]
    rintro e whB0 ⟨rfl, hB0⟩
    replace hB0 := Lib.hid hB0
    clear hA5
    have e1 := hcoa.out hca.out
    replace e1 := Lib.hid e1
    have hbb : (refB n C X != refB n C X) = false := by simp
    go_wp2_with fail
    refine (refines_all hB0.out 2 1 rfl rfl (by decide) rfl).mono ?_
    rw [e1.out]
    rintro e whB1 ⟨rfl, hB1⟩
    replace hB1 := Lib.hid hB1
    clear hB0
    go_wp2_with fail
    refine (refines_all hB1.out 2 3 rfl rfl (by decide) rfl).mono ?_
    rintro e whB2 ⟨rfl, hB2⟩
    replace hB2 := Lib.hid hB2
    clear hB1
    generalize refB n C X = bq at *
    go_wp2_with fail
    refine (refines_all hB2.out 0 2 rfl rfl (by decide) rfl).mono ?_
    rw [hac.out]
    rintro e whB3 ⟨rfl, hB3⟩
    replace hB3 := Lib.hid hB3
    clear hB2
    have e2 := hfin.out hac.out
    replace e2 := Lib.hid e2
    have hbb2 : (refB n Y C != refB n Y C) = false := by simp
    go_wp2_with fail
    refine (refines_all hB3.out 1 2 rfl rfl (by decide) rfl).mono ?_
    rw [e2.out]
    rintro e whB4 ⟨rfl, hB4⟩
    replace hB4 := Lib.hid hB4
    clear hB3
    go_wp2_with fail
    refine (refines_all hB4.out 4 2 rfl rfl (by decide) rfl).mono ?_
    rintro e whZ ⟨rfl, hZ⟩
    replace hZ := Lib.hid hZ
    clear hB4
    generalize refB n Y C = bq2 at *
    go_wp2_with fail
    refine (meet_all hZ.out 2 3 rfl rfl (by decide) rfl).mono ?_
    rintro e w6 ⟨p6, u6, Z, rfl, hZ2, hA6⟩
    have hZX := Lib.hid (refB_by2 hZ2)
    have gZ := Lib.hid (hA6.get (i := 5) rfl).good
    have t1 := Lib.hid (refB_trans gZ.out hZX.out (refB_by hX.out))
    have t2 := Lib.hid (refB_trans gZ.out hZX.out (refB_by2 hX.out))
    replace hA6 := Lib.hid hA6
    clear hZ hZ2
    go_wp2_with fail
    refine (join_all hA6.out 2 4 rfl rfl (by decide) rfl).mono ?_
    rintro e w7 ⟨p7, u7, rfl, hA7⟩
    replace hA7 := Lib.hid hA7
    have hYU := Lib.hid (join_right gC.out gY.out)
    have t3 := Lib.hid (refB_trans gA.out hYA.out hYU.out)
    have t4 := Lib.hid (refB_trans gB.out hYB.out hYU.out)
    clear hA6
    generalize overTo n C Y n = U at *
    go_wp2_with fail
    refine (refines_all hA7.out 5 0 rfl rfl (by decide) rfl).mono ?_
    rw [t1.out]
    rintro e w8 ⟨rfl, hA8⟩
    replace hA8 := Lib.hid hA8
    clear hA7
    go_wp2_with fail
    refine (refines_all hA8.out 5 1 rfl rfl (by decide) rfl).mono ?_
    rw [t2.out]
    rintro e w9 ⟨rfl, hA9⟩
    replace hA9 := Lib.hid hA9
    clear hA8
    go_wp2_with fail
    refine (refines_all hA9.out 0 6 rfl rfl (by decide) rfl).mono ?_
    rw [t3.out]
    rintro e w10 ⟨rfl, hA10⟩
    replace hA10 := Lib.hid hA10
    clear hA9
    go_wp2_with fail
    refine (refines_all hA10.out 1 6 rfl rfl (by decide) rfl).mono ?_
    rw [t4.out]
    rintro e w11 ⟨rfl, hA11⟩
    replace hA11 := Lib.hid hA11
    clear hA10
    go_wp2_with fail
    refine (known_all hA11.out).mono ?_
    rintro e w12 ⟨rfl, hA12⟩
    have hE := Lib.hid hA12.mu
    clear hA11 hA12
    go_wp2
    go_ret
    exact ⟨rfl, hE.out⟩

theorem lattice_walk (n : Int) (va vb vc : Value) (pa pb pc : List (Int × Int)) (w : World) (hpa : Pairs w va pa) (hpb : Pairs w vb pb) (hpc : Pairs w vc pc) :
    Calls Try.prog 6 #[.int .i64 n, .agg #[va, vb, vc]] w fun e w' => e = .returned (.bool true) ∧ Below w.heap.size w w' := by
  have key : Calls Try.prog 6 #[.int .i64 n, .agg #[va, vb, vc]] w (TruePost w) := by
    by_cases hn : n < 0 ∨ 40 < n
    · exact lattice_no n va vb vc pa pb pc w hpa hpb hpc hn
    · obtain ⟨k, rfl⟩ := Int.eq_ofNat_of_zero_le (show 0 ≤ n by omega)
      exact lattice_yes k va vb vc pa pb pc w hpa hpb hpc (by omega)
  exact key.mono fun e w' h => ⟨h.1, h.2.below⟩
end Go.Proofs.Ytojfpobgncapjaa
