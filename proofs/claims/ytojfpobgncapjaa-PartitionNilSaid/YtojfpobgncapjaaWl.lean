/- PartitionFind returns true, case by case. Condition: the pairs read as a list of pairs. -/
import Derived.Test.YtojfpobgncapjaaWk
set_option linter.unusedSimpArgs false
set_option linter.unusedVariables false
set_option maxHeartbeats 400000
namespace Go.Proofs.Ytojfpobgncapjaa
open Go Go.RowKit Go.PP

theorem connB_symm (R : List Int) (n : Nat) (a b : Int) : connB R n b a = connB R n a b := by
  unfold connB
  rw [Bool.and_comm (thereB n b)]
  congr 1
  rw [Bool.eq_iff_iff]; simp only [beq_iff_eq]; exact ⟨fun h => h.symm, fun h => h.symm⟩
theorem connB_none {R : List Int} {n : Nat} {a : Int} (h : thereB n a = false) (b : Int) : connB R n a b = false := by simp [connB, h]
theorem sizeTo_none {R : List Int} {n : Nat} {a : Int} (h : thereB n a = false) : ∀ k, sizeTo R n a k = 0
  | 0 => rfl
  | k + 1 => by simp [sizeTo, sizeTo_none h k, connB_none h]
theorem sizeTo_block {R : List Int} {n i : Nat} {x : Int} (hl : R.length = n) (hi : i < n) (hx : R[i]? = some x) : ∀ k, k ≤ n → sizeTo R n i k = (blockTo R x k).length
  | 0, _ => rfl
  | k + 1, hk => by
    have hRk : ∃ y, R[k]? = some y := ⟨R[k]'(by omega), by simp⟩
    obtain ⟨y, hy⟩ := hRk
    have hc : connB R n i k = decide (y = x) := by
      have h1 : thereB n (i : Int) = true := by simp [thereB, hi]
      have h2 : thereB n (k : Int) = true := by simp [thereB]; omega
      simp only [connB, h1, h2, Int.toNat_natCast, List.getD, hx, hy, Option.getD_some, Bool.and_self, Bool.true_and]
      rw [Bool.eq_iff_iff]; simp only [beq_iff_eq, decide_eq_true_eq]; exact ⟨fun h => h.symm, fun h => h.symm⟩
    simp only [sizeTo, blockTo, sizeTo_block hl hi hx k (by omega), hc, hy, List.length_append]
    by_cases e : y = x <;> simp [e]

structure FindS (w0 : World) (p u n : Nat) (R : List Int) (v : Value) (b off k : Nat) (x : Int) (w : World) : Prop where
  part : Part w p u n R
  ints : Ints (· = u) w v R
  mu : Mut (fun _ => False) w0 w
  cell : w.cell? ⟨b, off + k, none⟩ = some (.int .i64 x)

theorem find_no (n : Int) (vp : Value) (a b : Int) (w : World) (h : n < 0 ∨ 40 < n) : Calls Try.prog 3 #[.int .i64 n, vp, .int .i64 a, .int .i64 b] w (TruePost w) := by
  go_enter Try.func3, Try.ntmps3
  go_wp2_with fail
  refine (made_no n vp w h).mono ?_
  rintro e w1 ⟨rfl, hm⟩
  replace hm := Lib.hid hm
  clear h
  go_wp2_with fail
  refine (known_any w1).mono ?_
  rintro e w2 ⟨rfl, hm2⟩
  replace hm := Lib.hid (hm.out.trans hm2)
  clear hm2
  go_wp2
  go_ret
  exact ⟨rfl, hm.out⟩

set_option maxHeartbeats 4000000 in
theorem find_outside (n : Nat) (vp : Value) (ps : List (Int × Int)) (a b : Int) (w : World) (hn : n ≤ 40) (hp : Pairs w vp ps) (ha : thereB n a = false) :
    Calls Try.prog 3 #[.int .i64 n, vp, .int .i64 a, .int .i64 b] w (TruePost w) := by
  have ha' := Lib.hid ha
  clear ha
  go_enter Try.func3, Try.ntmps3
  go_wp2_with fail
  refine (made_any n vp ps w hn hp).mono ?_
  rintro e w1 ⟨p, u, v, rfl, hpp, huu, hP, hv, hm⟩
  have hlen := hP.len
  generalize foldP n ps (min ps.length 60) = R at *
  replace hP := Lib.hid hP
  replace hv := Lib.hid hv
  replace hm := Lib.hid hm
  replace hlen := Lib.hid hlen
  go_wp2
  go_quiet ((go_at_call 13; exact Calls.quiet_of_same ((rthere_any (· = u) v R a _ (by exact hv.out.mut ((Mut.refl (fun _ => False) w1).drewN _) (by simp))).mono fun _ _ h => ⟨by rw [h.1, hlen.out, ha'.out], h.2.symm⟩)))
  go_wp2_with fail
  refine (find_any a _ p u n R (by exact hP.out.mut ((Mut.refl (fun _ => False) w1).drewN _) (by simp) (by simp))).mono ?_
  rintro e w2 (⟨h, _⟩ | ⟨_, rfl, rfl⟩)
  · simp [ha'.out] at h
  go_wp2_with fail
  refine (rthere_any (· = u) v R a _ (by exact hv.out.mut ((Mut.refl (fun _ => False) w1).drewN _) (by simp))).mono ?_
  rw [hlen.out, ha'.out]
  rintro e w2 ⟨rfl, rfl⟩
  go_wp2_with fail
  refine (conn_any a b _ p u n R (by exact hP.out.mut ((Mut.refl (fun _ => False) w1).drewN _) (by simp) (by simp))).mono ?_
  unfold ConnPost
  rw [connB_none ha'.out]
  rintro e w2 ⟨rfl, hP2, hm2⟩
  replace hm := Lib.hid ((hm.out.drewN _).trans' hm2 (fun i hi e => by omega))
  replace hP2 := Lib.hid hP2
  clear hm2 hv
  go_wp2_with fail
  refine (size_any a _ p u n R hP2.out).mono ?_
  unfold SizePost
  rw [sizeTo_none ha'.out]
  rintro e w3 ⟨rfl, hP3, hm3⟩
  replace hm := Lib.hid (hm.out.trans' hm3 (fun i hi e => by omega))
  clear hP3 hm3
  go_wp2_with fail
  refine (known_any w3).mono ?_
  rintro e w4 ⟨rfl, hm4⟩
  replace hm := Lib.hid (hm.out.trans hm4)
  clear hm4
  go_wp2
  go_ret
  exact ⟨rfl, hm.out⟩
/-! ### inside -/
set_option maxHeartbeats 8000000 in
theorem find_half (n : Nat) (vp : Value) (ps : List (Int × Int)) (i : Nat) (b : Int) (w : World) (hn : n ≤ 40) (hp : Pairs w vp ps) (hi : i < n) (hb : thereB n b = false) :
    Calls Try.prog 3 #[.int .i64 n, vp, .int .i64 i, .int .i64 b] w (TruePost w) := by
  have ha' := Lib.hid (show thereB n (i : Int) = true by simp [thereB, hi])
  go_enter Try.func3, Try.ntmps3
  go_wp2_with fail
  refine (made_any n vp ps w hn hp).mono ?_
  rintro e w1 ⟨p, u, v, rfl, hpp, huu, hP, hv, hm⟩
  have hlen := hP.len
  generalize foldP n ps (min ps.length 60) = R at *
  have hv0 := Lib.hid hv
  obtain ⟨oa, oc, rfl, -, -⟩ := hv.open
  obtain ⟨bb, off, x, rfl, hx, hcx⟩ := Ints.slot hv (Mut.refl _ _) (k := i) (by omega)
  have hcx' : ¬ bb = u := by
    obtain ⟨_, _, he, -, h3⟩ := hv.open
    obtain ⟨b2, off2, _, q1, q2, _, _⟩ := h3 i (by omega)
    simp only [Value.slice.injEq] at he
    rw [← he.1] at q1
    simp only [Option.some.injEq, Addr.mk.injEq, and_true] at q1
    rw [q1.1]; exact q2
  have hconn := Lib.hid (show connB R n i b = false by simp [connB, hb])
  have hb' := Lib.hid hb
  clear hb
  have hil : i < R.length := by omega
  have hn2 : R.length ≤ 4096 := by omega
  have hpub := hP.ult
  have hsz := hm.size
  clear hv
  replace hP := Lib.hid hP
  replace hm := Lib.hid hm
  replace hx := Lib.hid hx
  go_wp2
  rw [hlen] at hv0 hil hn2
  replace hlen := Lib.hid hlen
  go_quiet ((go_at_call 13; exact Calls.quiet_of_same ((rthere_any (· = u) _ R _ _ (by exact hv0.out.mut ((Mut.refl (fun _ => False) w1).drewN _) (by simp))).mono fun _ _ h => ⟨by first | rw [h.1, hlen.out, ha'.out] | rw [h.1, hlen.out, hb'.out], h.2.symm⟩)))

  go_wp2_with fail
  refine (find_any i _ p u n R (by exact hP.out.mut ((Mut.refl (fun _ => False) w1).drewN _) (by simp) (by simp))).mono ?_
  rintro e w2 (⟨_, r, hr, rfl, hP2, hm2⟩ | ⟨h, _⟩)
  rotate_left
  · simp [ha'.out] at h
  simp only [Int.toNat_natCast] at hr
  rw [hx.out] at hr
  have hxr : x = (r : Int) := Option.some.inj hr
  subst hxr
  have hv2 := Lib.hid ((hv0.out.mut ((Mut.refl (fun _ => False) w1).drewN nq) (by simp)).mut hm2 (fun _ _ e => e))
  have hcx2 := hm2.cell (show (w1.drewN nq).cell? ⟨bb, off + i, none⟩ = some (.int .i64 (r : Nat)) from hcx) hcx'
  have hm3 := Lib.hid ((hm.out.drewN nq).trans' hm2 (fun i hi e => by omega))
  replace hP2 := Lib.hid hP2
  clear hr hm2 hm hP hv0 hcx hn2
  go_wp2_with fail
  refine (rthere_any (· = u) _ R i _ (by exact hv2.out)).mono ?_
  rw [hlen.out, ha'.out]
  rintro e w3 ⟨rfl, rfl⟩
  have hd1 : connB R n i b = false := hconn.out
  have hd2 : connB R n b i = false := by rw [connB_symm]; exact hconn.out
  replace hd1 := Lib.hid hd1
  replace hd2 := Lib.hid hd2
  have hbs := Lib.hid (sizeTo_block hlen.out hi hx.out n (Nat.le_refl _))
  go_wp2
  have hS := Lib.hid (show FindS w p u n R (.slice (some ⟨bb, off, none⟩) n oc) bb off i (r : Int) w2.drew from
    ⟨hP2.out.mut ((Mut.refl (fun _ => False) w2).drew) (by simp) (by simp), hv2.out.mut ((Mut.refl (fun _ => False) w2).drew) (by simp), hm3.out.drew, by simpa using hcx2⟩)
  have hne := Cls.ne hS.out
  have hkeep : ∀ a b : World, FindS w p u n R (.slice (some ⟨bb, off, none⟩) n oc) bb off i (r : Int) a → Part b p u n R → Mut (· = u) a b → FindS w p u n R (.slice (some ⟨bb, off, none⟩) n oc) bb off i (r : Int) b :=
    fun a b h h1 h2 => ⟨h1, h.ints.mut h2 (fun _ _ e => e), h.mu.trans' h2 (fun i hi e => by omega), h2.cell h.cell hcx'⟩
  replace hkeep := Lib.hid hkeep
  clear hv2 hm3 hP2 hcx2
  refine wp_plan (FindS w p u n R (.slice (some ⟨bb, off, none⟩) n oc) bb off i (r : Int)) [0, 1, 2, 3, 4, 5, 6, 7, 8, 9, 10, 11, 12, 13, 14, 15, 16, 17, 18, 19, 20, 21, 22, 23, 24, 25, 26, 27, 28, 29, 30, 31, 32, 33, 34, 35, 36, 37, 38, 39] [([0, 1, 2, 4], some 3), ([5, 6, 7, 8, 9, 11], some 10), ([12, 13, 14, 15, 16, 17, 18, 19, 20, 21, 22, 23, 24, 25, 26, 27, 28, 30, 31, 32, 33, 34], some 29), ([], some 35), ([36, 37, 38, 39], none)] [40, 41, 42] (by kernel_rfl) (by kernel_rfl) ?_
  refine ⟨Of.mk hS.out, ?_⟩
  simp only [wpPlan, pickOps_cons, pickOps_nil, List.getElem?_cons_zero, List.getElem?_cons_succ, pickOp_some]
  have s1 := fun x : Cls (FindS w p u n R (.slice (some ⟨bb, off, none⟩) n oc) bb off i (r : Int)) => x.ok.cell
  repeat (go_big_quiet_step (fail))
  refine wpQuiet_nil ?_
  go_wp2_with fail
  refine (conn_any i b _ p u n R hS.out.part).mono ?_
  unfold ConnPost
  rw [hd1.out]
  rintro e w3 ⟨rfl, hP3, hm3⟩
  have hS3 := Lib.hid (hkeep.out _ _ hS.out hP3 hm3)
  clear hP3 hm3
  go_wp2
  refine ⟨fun _ => Of.mk hS3.out, Of.mk hS3.out, ?_⟩
  repeat (go_big_quiet_step (fail))
  refine wpQuiet_nil ?_
  go_wp2_with fail
  refine (conn_any b i _ p u n R hS3.out.part).mono ?_
  unfold ConnPost
  rw [hd2.out]
  rintro e w4 ⟨rfl, hP3, hm3⟩
  have hS4 := Lib.hid (hkeep.out _ _ hS3.out hP3 hm3)
  clear hP3 hm3
  go_wp2
  refine ⟨fun _ => Of.mk hS4.out, Of.mk hS4.out, ?_⟩
  repeat (go_big_quiet_step (fail))
  refine wpQuiet_nil ?_
  go_wp2_with fail
  refine (size_any i _ p u n R hS4.out.part).mono ?_
  unfold SizePost
  rw [hbs.out]
  rintro e w5 ⟨rfl, hP3, hm3⟩
  have hS5 := Lib.hid (hkeep.out _ _ hS4.out hP3 hm3)
  clear hP3 hm3
  go_wp2
  refine ⟨fun _ => Of.mk hS5.out, Of.mk hS5.out, wpQuiet_nil ?_⟩
  go_wp2_with fail
  refine (block_any (· = u) _ R r _ (by exact hS5.out.ints) (by intro b e; have := hS5.out.part.ult; omega) (by rw [hlen.out]; omega)).mono ?_
  rw [hlen.out]
  rintro e w6 ⟨v6, rfl, hv6, hm6⟩
  have hS6 := Lib.hid (hkeep.out _ _ hS5.out (hS5.out.part.mut hm6 (by simp) (by simp)) (hm6.mono (fun _ _ e => e.elim)))
  obtain ⟨a6, c6, rfl, -, -⟩ := hv6.open
  clear hv6 hm6
  have hbe : (((blockTo R (r : Nat) n).length : Int) == ((blockTo R (r : Nat) n).length : Int)) = true := by simp
  generalize hbl : (blockTo R (r : Nat) n).length = bl at *
  replace hbl := Lib.hid hbl
  go_wp2
  refine ⟨fun _ => Of.mk hS6.out, Of.mk hS6.out, ?_⟩
  repeat (go_big_quiet_step (fail))
  refine wpQuiet_nil ?_
  clear s1 hne
  have hmE := Lib.hid hS6.out.mu
  go_wp2_with fail
  refine (known_any _).mono ?_
  rintro e w7 ⟨rfl, hm7⟩
  replace hmE := Lib.hid (hmE.out.trans hm7)
  clear hm7
  go_wp2
  refine NoPanic.normal ?_
  go_wp2
  go_ret
  exact ⟨rfl, hmE.out⟩
/-! ### inside -/
set_option maxHeartbeats 8000000 in
theorem find_both (n : Nat) (vp : Value) (ps : List (Int × Int)) (i : Nat) (j : Nat) (w : World) (hn : n ≤ 40) (hp : Pairs w vp ps) (hi : i < n) (hj : j < n) :
    Calls Try.prog 3 #[.int .i64 n, vp, .int .i64 i, .int .i64 j] w (TruePost w) := by
  have ha' := Lib.hid (show thereB n (i : Int) = true by simp [thereB, hi])
  go_enter Try.func3, Try.ntmps3
  go_wp2_with fail
  refine (made_any n vp ps w hn hp).mono ?_
  rintro e w1 ⟨p, u, v, rfl, hpp, huu, hP, hv, hm⟩
  have hlen := hP.len
  generalize foldP n ps (min ps.length 60) = R at *
  have hv0 := Lib.hid hv
  obtain ⟨oa, oc, rfl, -, -⟩ := hv.open
  obtain ⟨bb, off, x, rfl, hx, hcx⟩ := Ints.slot hv (Mut.refl _ _) (k := i) (by omega)
  have hcx' : ¬ bb = u := by
    obtain ⟨_, _, he, -, h3⟩ := hv.open
    obtain ⟨b2, off2, _, q1, q2, _, _⟩ := h3 i (by omega)
    simp only [Value.slice.injEq] at he
    rw [← he.1] at q1
    simp only [Option.some.injEq, Addr.mk.injEq, and_true] at q1
    rw [q1.1]; exact q2
  obtain ⟨_, _, y, he, hy, hcy⟩ := Ints.slot hv (Mut.refl _ _) (k := j) (by omega)
  cases he
  have hb' := Lib.hid (show thereB n (j : Int) = true by simp [thereB, hj])
  have hjl : j < R.length := by omega
  replace hy := Lib.hid hy
  have hil : i < R.length := by omega
  have hn2 : R.length ≤ 4096 := by omega
  have hpub := hP.ult
  have hsz := hm.size
  clear hv
  replace hP := Lib.hid hP
  replace hm := Lib.hid hm
  replace hx := Lib.hid hx
  go_wp2
  rw [hlen] at hv0 hil hn2 hjl
  replace hlen := Lib.hid hlen
  by_cases e : x = y
  · have hconn := Lib.hid (show connB R n i j = true by simp [connB, ha'.out, hb'.out, List.getD, hx.out, hy.out, e])
    have heq : (x == y) = true := by simp [e]
    replace e := Lib.hid e
    go_quiet ((go_at_call 13; exact Calls.quiet_of_same ((rthere_any (· = u) _ R _ _ (by exact hv0.out.mut ((Mut.refl (fun _ => False) w1).drewN _) (by simp))).mono fun _ _ h => ⟨by first | rw [h.1, hlen.out, ha'.out] | rw [h.1, hlen.out, hb'.out], h.2.symm⟩)))

    go_wp2_with fail
    refine (find_any i _ p u n R (by exact hP.out.mut ((Mut.refl (fun _ => False) w1).drewN _) (by simp) (by simp))).mono ?_
    rintro e w2 (⟨_, r, hr, rfl, hP2, hm2⟩ | ⟨h, _⟩)
    rotate_left
    · simp [ha'.out] at h
    simp only [Int.toNat_natCast] at hr
    rw [hx.out] at hr
    have hxr : x = (r : Int) := Option.some.inj hr
    subst hxr
    have hv2 := Lib.hid ((hv0.out.mut ((Mut.refl (fun _ => False) w1).drewN nq) (by simp)).mut hm2 (fun _ _ e => e))
    have hcx2 := hm2.cell (show (w1.drewN nq).cell? ⟨bb, off + i, none⟩ = some (.int .i64 (r : Nat)) from hcx) hcx'
    have hm3 := Lib.hid ((hm.out.drewN nq).trans' hm2 (fun i hi e => by omega))
    replace hP2 := Lib.hid hP2
    clear hr hm2 hm hP hv0 hcx hn2 hcy heq
    go_wp2_with fail
    refine (rthere_any (· = u) _ R i _ (by exact hv2.out)).mono ?_
    rw [hlen.out, ha'.out]
    rintro e w3 ⟨rfl, rfl⟩
    have hd1 : connB R n i j = true := hconn.out
    have hd2 : connB R n j i = true := by rw [connB_symm]; exact hconn.out
    replace hd1 := Lib.hid hd1
    replace hd2 := Lib.hid hd2
    have hbs := Lib.hid (sizeTo_block hlen.out hi hx.out n (Nat.le_refl _))
    go_wp2
    have hS := Lib.hid (show FindS w p u n R (.slice (some ⟨bb, off, none⟩) n oc) bb off i (r : Int) w2.drew from
      ⟨hP2.out.mut ((Mut.refl (fun _ => False) w2).drew) (by simp) (by simp), hv2.out.mut ((Mut.refl (fun _ => False) w2).drew) (by simp), hm3.out.drew, by simpa using hcx2⟩)
    have hne := Cls.ne hS.out
    have hkeep : ∀ a b : World, FindS w p u n R (.slice (some ⟨bb, off, none⟩) n oc) bb off i (r : Int) a → Part b p u n R → Mut (· = u) a b → FindS w p u n R (.slice (some ⟨bb, off, none⟩) n oc) bb off i (r : Int) b :=
      fun a b h h1 h2 => ⟨h1, h.ints.mut h2 (fun _ _ e => e), h.mu.trans' h2 (fun i hi e => by omega), h2.cell h.cell hcx'⟩
    replace hkeep := Lib.hid hkeep
    clear hv2 hm3 hP2 hcx2
    refine wp_plan (FindS w p u n R (.slice (some ⟨bb, off, none⟩) n oc) bb off i (r : Int)) [0, 1, 2, 3, 4, 5, 6, 7, 8, 9, 10, 11, 12, 13, 14, 15, 16, 17, 18, 19, 20, 21, 22, 23, 24, 25, 26, 27, 28, 29, 30, 31, 32, 33, 34, 35, 36, 37, 38, 39] [([0, 1, 2, 4], some 3), ([5, 6, 7, 8, 9, 11], some 10), ([12, 13, 14, 15, 16, 17, 18, 19, 20, 21, 22, 23, 24, 25, 26, 27, 28, 30, 31, 32, 33, 34], some 29), ([], some 35), ([36, 37, 38, 39], none)] [40, 41, 42] (by kernel_rfl) (by kernel_rfl) ?_
    refine ⟨Of.mk hS.out, ?_⟩
    simp only [wpPlan, pickOps_cons, pickOps_nil, List.getElem?_cons_zero, List.getElem?_cons_succ, pickOp_some]
    have s1 := fun x : Cls (FindS w p u n R (.slice (some ⟨bb, off, none⟩) n oc) bb off i (r : Int)) => x.ok.cell
    repeat (go_big_quiet_step (fail))
    refine wpQuiet_nil ?_
    go_wp2_with fail
    refine (conn_any i j _ p u n R hS.out.part).mono ?_
    unfold ConnPost
    rw [hd1.out]
    rintro e w3 ⟨rfl, hP3, hm3⟩
    have hS3 := Lib.hid (hkeep.out _ _ hS.out hP3 hm3)
    clear hP3 hm3
    go_wp2
    refine ⟨fun _ => Of.mk hS3.out, Of.mk hS3.out, ?_⟩
    repeat (go_big_quiet_step (fail))
    refine wpQuiet_nil ?_
    go_wp2_with fail
    refine (conn_any j i _ p u n R hS3.out.part).mono ?_
    unfold ConnPost
    rw [hd2.out]
    rintro e w4 ⟨rfl, hP3, hm3⟩
    have hS4 := Lib.hid (hkeep.out _ _ hS3.out hP3 hm3)
    clear hP3 hm3
    go_wp2
    refine ⟨fun _ => Of.mk hS4.out, Of.mk hS4.out, ?_⟩
    repeat (go_big_quiet_step (fail))
    refine wpQuiet_nil ?_
    go_wp2_with fail
    refine (size_any i _ p u n R hS4.out.part).mono ?_
    unfold SizePost
    rw [hbs.out]
    rintro e w5 ⟨rfl, hP3, hm3⟩
    have hS5 := Lib.hid (hkeep.out _ _ hS4.out hP3 hm3)
    clear hP3 hm3
    go_wp2
    refine ⟨fun _ => Of.mk hS5.out, Of.mk hS5.out, wpQuiet_nil ?_⟩
    go_wp2_with fail
    refine (block_any (· = u) _ R r _ (by exact hS5.out.ints) (by intro b e; have := hS5.out.part.ult; omega) (by rw [hlen.out]; omega)).mono ?_
    rw [hlen.out]
    rintro e w6 ⟨v6, rfl, hv6, hm6⟩
    have hS6 := Lib.hid (hkeep.out _ _ hS5.out (hS5.out.part.mut hm6 (by simp) (by simp)) (hm6.mono (fun _ _ e => e.elim)))
    obtain ⟨a6, c6, rfl, -, -⟩ := hv6.open
    clear hv6 hm6
    have hbe : (((blockTo R (r : Nat) n).length : Int) == ((blockTo R (r : Nat) n).length : Int)) = true := by simp
    generalize hbl : (blockTo R (r : Nat) n).length = bl at *
    replace hbl := Lib.hid hbl
    go_wp2
    refine ⟨fun _ => Of.mk hS6.out, Of.mk hS6.out, ?_⟩
    repeat (go_big_quiet_step (fail))
    refine wpQuiet_nil ?_
    clear s1 hne
    have hmE := Lib.hid hS6.out.mu
    go_wp2_with fail
    refine (known_any _).mono ?_
    rintro e w7 ⟨rfl, hm7⟩
    replace hmE := Lib.hid (hmE.out.trans hm7)
    clear hm7
    go_wp2
    refine NoPanic.normal ?_
    go_wp2
    go_ret
    exact ⟨rfl, hmE.out⟩
  · have hconn := Lib.hid (show connB R n i j = false by simp [connB, ha'.out, hb'.out, List.getD, hx.out, hy.out, e])
    have heq : (x == y) = false := by simp [e]
    replace e := Lib.hid e
    go_quiet ((go_at_call 13; exact Calls.quiet_of_same ((rthere_any (· = u) _ R _ _ (by exact hv0.out.mut ((Mut.refl (fun _ => False) w1).drewN _) (by simp))).mono fun _ _ h => ⟨by first | rw [h.1, hlen.out, ha'.out] | rw [h.1, hlen.out, hb'.out], h.2.symm⟩)))

    go_wp2_with fail
    refine (find_any i _ p u n R (by exact hP.out.mut ((Mut.refl (fun _ => False) w1).drewN _) (by simp) (by simp))).mono ?_
    rintro e w2 (⟨_, r, hr, rfl, hP2, hm2⟩ | ⟨h, _⟩)
    rotate_left
    · simp [ha'.out] at h
    simp only [Int.toNat_natCast] at hr
    rw [hx.out] at hr
    have hxr : x = (r : Int) := Option.some.inj hr
    subst hxr
    have hv2 := Lib.hid ((hv0.out.mut ((Mut.refl (fun _ => False) w1).drewN nq) (by simp)).mut hm2 (fun _ _ e => e))
    have hcx2 := hm2.cell (show (w1.drewN nq).cell? ⟨bb, off + i, none⟩ = some (.int .i64 (r : Nat)) from hcx) hcx'
    have hm3 := Lib.hid ((hm.out.drewN nq).trans' hm2 (fun i hi e => by omega))
    replace hP2 := Lib.hid hP2
    clear hr hm2 hm hP hv0 hcx hn2 hcy heq
    go_wp2_with fail
    refine (rthere_any (· = u) _ R i _ (by exact hv2.out)).mono ?_
    rw [hlen.out, ha'.out]
    rintro e w3 ⟨rfl, rfl⟩
    have hd1 : connB R n i j = false := hconn.out
    have hd2 : connB R n j i = false := by rw [connB_symm]; exact hconn.out
    replace hd1 := Lib.hid hd1
    replace hd2 := Lib.hid hd2
    have hbs := Lib.hid (sizeTo_block hlen.out hi hx.out n (Nat.le_refl _))
    go_wp2
    have hS := Lib.hid (show FindS w p u n R (.slice (some ⟨bb, off, none⟩) n oc) bb off i (r : Int) w2.drew from
      ⟨hP2.out.mut ((Mut.refl (fun _ => False) w2).drew) (by simp) (by simp), hv2.out.mut ((Mut.refl (fun _ => False) w2).drew) (by simp), hm3.out.drew, by simpa using hcx2⟩)
    have hne := Cls.ne hS.out
    have hkeep : ∀ a b : World, FindS w p u n R (.slice (some ⟨bb, off, none⟩) n oc) bb off i (r : Int) a → Part b p u n R → Mut (· = u) a b → FindS w p u n R (.slice (some ⟨bb, off, none⟩) n oc) bb off i (r : Int) b :=
      fun a b h h1 h2 => ⟨h1, h.ints.mut h2 (fun _ _ e => e), h.mu.trans' h2 (fun i hi e => by omega), h2.cell h.cell hcx'⟩
    replace hkeep := Lib.hid hkeep
    clear hv2 hm3 hP2 hcx2
    refine wp_plan (FindS w p u n R (.slice (some ⟨bb, off, none⟩) n oc) bb off i (r : Int)) [0, 1, 2, 3, 4, 5, 6, 7, 8, 9, 10, 11, 12, 13, 14, 15, 16, 17, 18, 19, 20, 21, 22, 23, 24, 25, 26, 27, 28, 29, 30, 31, 32, 33, 34, 35, 36, 37, 38, 39] [([0, 1, 2, 4], some 3), ([5, 6, 7, 8, 9, 11], some 10), ([12, 13, 14, 15, 16, 17, 18, 19, 20, 21, 22, 23, 24, 25, 26, 27, 28, 30, 31, 32, 33, 34], some 29), ([], some 35), ([36, 37, 38, 39], none)] [40, 41, 42] (by kernel_rfl) (by kernel_rfl) ?_
    refine ⟨Of.mk hS.out, ?_⟩
    simp only [wpPlan, pickOps_cons, pickOps_nil, List.getElem?_cons_zero, List.getElem?_cons_succ, pickOp_some]
    have s1 := fun x : Cls (FindS w p u n R (.slice (some ⟨bb, off, none⟩) n oc) bb off i (r : Int)) => x.ok.cell
    repeat (go_big_quiet_step (fail))
    refine wpQuiet_nil ?_
    go_wp2_with fail
    refine (conn_any i j _ p u n R hS.out.part).mono ?_
    unfold ConnPost
    rw [hd1.out]
    rintro e w3 ⟨rfl, hP3, hm3⟩
    have hS3 := Lib.hid (hkeep.out _ _ hS.out hP3 hm3)
    clear hP3 hm3
    go_wp2
    refine ⟨fun _ => Of.mk hS3.out, Of.mk hS3.out, ?_⟩
    repeat (go_big_quiet_step (fail))
    refine wpQuiet_nil ?_
    go_wp2_with fail
    refine (conn_any j i _ p u n R hS3.out.part).mono ?_
    unfold ConnPost
    rw [hd2.out]
    rintro e w4 ⟨rfl, hP3, hm3⟩
    have hS4 := Lib.hid (hkeep.out _ _ hS3.out hP3 hm3)
    clear hP3 hm3
    go_wp2
    refine ⟨fun _ => Of.mk hS4.out, Of.mk hS4.out, ?_⟩
    repeat (go_big_quiet_step (fail))
    refine wpQuiet_nil ?_
    go_wp2_with fail
    refine (size_any i _ p u n R hS4.out.part).mono ?_
    unfold SizePost
    rw [hbs.out]
    rintro e w5 ⟨rfl, hP3, hm3⟩
    have hS5 := Lib.hid (hkeep.out _ _ hS4.out hP3 hm3)
    clear hP3 hm3
    go_wp2
    refine ⟨fun _ => Of.mk hS5.out, Of.mk hS5.out, wpQuiet_nil ?_⟩
    go_wp2_with fail
    refine (block_any (· = u) _ R r _ (by exact hS5.out.ints) (by intro b e; have := hS5.out.part.ult; omega) (by rw [hlen.out]; omega)).mono ?_
    rw [hlen.out]
    rintro e w6 ⟨v6, rfl, hv6, hm6⟩
    have hS6 := Lib.hid (hkeep.out _ _ hS5.out (hS5.out.part.mut hm6 (by simp) (by simp)) (hm6.mono (fun _ _ e => e.elim)))
    obtain ⟨a6, c6, rfl, -, -⟩ := hv6.open
    clear hv6 hm6
    have hbe : (((blockTo R (r : Nat) n).length : Int) == ((blockTo R (r : Nat) n).length : Int)) = true := by simp
    generalize hbl : (blockTo R (r : Nat) n).length = bl at *
    replace hbl := Lib.hid hbl
    go_wp2
    refine ⟨fun _ => Of.mk hS6.out, Of.mk hS6.out, ?_⟩
    repeat (go_big_quiet_step (fail))
    refine wpQuiet_nil ?_
    clear s1 hne
    have hmE := Lib.hid hS6.out.mu
    go_wp2_with fail
    refine (known_any _).mono ?_
    rintro e w7 ⟨rfl, hm7⟩
    replace hmE := Lib.hid (hmE.out.trans hm7)
    clear hm7
    go_wp2
    refine NoPanic.normal ?_
    go_wp2
    go_ret
    exact ⟨rfl, hmE.out⟩
end Go.Proofs.Ytojfpobgncapjaa
