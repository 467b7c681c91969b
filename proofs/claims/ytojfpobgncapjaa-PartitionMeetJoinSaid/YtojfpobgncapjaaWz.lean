/- PartitionMeetJoin returns true. Condition: the two numbers are numbers, the two lists are lists of pairs. -/
import Derived.Test.YtojfpobgncapjaaWy
set_option linter.unusedSimpArgs false
set_option linter.unusedVariables false
set_option maxHeartbeats 400000
namespace Go.Proofs.Ytojfpobgncapjaa
open Go Go.RowKit Go.PP

theorem box_keep (w : World) (o : Obj) {a : Addr} {v : Value} (h : w.cell? a = some v) : (w.alloc o).cell? a = some v := ((Mut.refl (fun _ => False) w).alloc o).cell h (by simp)

theorem box_atb (w : World) (b : Nat) (hb : b = w.heap.size) (cs : Array Value) (t i : Nat) (v : Value) (h : cs[i]? = some v) : (w.alloc (.cells cs t)).cell? ⟨b, i, none⟩ = some v := by rw [hb]; exact box_at w cs t i v h

def AnyMade (w : World) (e : Ending) (w' : World) : Prop := ∃ pp a l c, e = .returned (.tuple #[.pointer pp, .slice a l c]) ∧ Mut (fun _ => False) w w'
theorem made_some (m : Int) (vp : Value) (ps : List (Int × Int)) (w : World) (hp : Pairs w vp ps) : Calls Try.prog 11 #[.int .i64 m, vp] w (AnyMade w) := by
  by_cases h : m < 0 ∨ 40 < m
  · exact (made_no m vp w h).mono fun e w' ⟨h1, h2⟩ => ⟨_, _, _, _, h1, h2⟩
  · obtain ⟨k, rfl⟩ := Int.eq_ofNat_of_zero_le (show 0 ≤ m by omega)
    refine (made2_any k vp ps w (by omega) hp).mono ?_
    rintro e w' ⟨p, u, v, rfl, _, _, _, h4, h5⟩
    obtain ⟨a, c, rfl, -, -⟩ := h4.open
    exact ⟨_, _, _, _, rfl, h5⟩

section
variable {w0 w : World} {L : List PE} {I : List (Value × List Int)}
theorem refines_all_ne (h : All w0 L I w) (i j : Nat) {x y : PE} (hi : L[i]? = some x) (hj : L[j]? = some y) (hn : x.n ≠ y.n) :
    Calls Try.prog 27 #[.pointer (some ⟨x.p, 0, none⟩), .pointer (some ⟨y.p, 0, none⟩)] w fun e w' => e = .returned (.bool false) ∧ w = w' := refines_ne _ _ _ _ _ _ _ _ _ (h.get hi) (h.get hj) hn
theorem meet_all_ne (h : All w0 L I w) (i j : Nat) {x y : PE} (hi : L[i]? = some x) (hj : L[j]? = some y) (hn : x.n ≠ y.n) :
    Calls Try.prog 25 #[.pointer (some ⟨x.p, 0, none⟩), .pointer (some ⟨y.p, 0, none⟩)] w fun e w' => e = .returned (.tuple #[.pointer none, .int .i64 1]) ∧ w = w' := meet_ne _ _ _ _ _ _ _ _ _ (h.get hi) (h.get hj) hn
theorem join_all_ne (h : All w0 L I w) (i j : Nat) {x y : PE} (hi : L[i]? = some x) (hj : L[j]? = some y) (hn : x.n ≠ y.n) :
    Calls Try.prog 26 #[.pointer (some ⟨x.p, 0, none⟩), .pointer (some ⟨y.p, 0, none⟩)] w fun e w' => e = .returned (.tuple #[.pointer none, .int .i64 1]) ∧ w = w' := joinp_ne _ _ _ _ _ _ _ _ _ (h.get hi) (h.get hj) hn
end

set_option maxRecDepth 8000 in
set_option maxHeartbeats 4000000 in
theorem mj_no1_true (n a b : Int) (va vb : Value) (pa pb : List (Int × Int)) (w : World) (hpa : Pairs w va pa) (hpb : Pairs w vb pb) (h : n < 0 ∨ 40 < n) (hq : (a.tmod 4 == 0) = true) : Calls Try.prog 9 #[.int .i64 n, .agg #[.int .i64 a, .int .i64 b], .agg #[va, vb]] w (TruePost w) := by
  replace h := Lib.hid h
  have qa := Lib.hid hpa
  have qb := Lib.hid hpb
  obtain ⟨a1, c1, rfl⟩ := hpa.open
  obtain ⟨a2, c2, rfl⟩ := hpb.open
  clear hpa hpb
  have k0 := box_keep _ (.cells #[.slice a1 pa.length c1, .slice a2 pb.length c2] 63) (box_at w #[.int .i64 a, .int .i64 b] 42 0 _ rfl)
  have k1 := box_keep _ (.cells #[.slice a1 pa.length c1, .slice a2 pb.length c2] 63) (box_at w #[.int .i64 a, .int .i64 b] 42 1 _ rfl)
  have k2 := box_atb (w.alloc (.cells #[.int .i64 a, .int .i64 b] 42)) (w.heap.size + 1) (by simp) #[.slice a1 pa.length c1, .slice a2 pb.length c2] 63 0 _ rfl
  have k3 := box_atb (w.alloc (.cells #[.int .i64 a, .int .i64 b] 42)) (w.heap.size + 1) (by simp) #[.slice a1 pa.length c1, .slice a2 pb.length c2] 63 1 _ rfl
  have hm0 := ((Mut.refl (fun _ => False) w).alloc (.cells #[.int .i64 a, .int .i64 b] 42)).alloc (.cells #[.slice a1 pa.length c1, .slice a2 pb.length c2] 63)
  replace hm0 := Lib.hid hm0
  go_enter Try.func9, Try.ntmps9
  go_wp2_with fail
  refine (made_no n _ _ h.out).mono ?_
  rintro e w1 ⟨rfl, hm1⟩
  replace k0 := hm1.cell k0 (by simp)
  replace k1 := hm1.cell k1 (by simp)
  replace k3 := hm1.cell k3 (by simp)
  replace hm0 := Lib.hid (hm0.out.trans hm1)
  clear hm1 k2
  go_wp2_with fail
  refine (made_some _ _ pb _ (qb.out.mut hm0.out)).mono ?_
  rintro e w2 ⟨pp, sa, sl, sc, rfl, hm1⟩
  replace hm0 := Lib.hid (hm0.out.trans hm1)
  clear hm1 k0 k1 k3
  go_wp2_with fail
  refine (known_any _).mono ?_
  rintro e w4 ⟨rfl, hm1⟩
  replace hm0 := Lib.hid (hm0.out.trans hm1)
  clear hm1
  go_wp2
  go_ret
  exact ⟨rfl, hm0.out⟩

set_option maxRecDepth 8000 in
set_option maxHeartbeats 4000000 in
theorem mj_no1_false (n a b : Int) (va vb : Value) (pa pb : List (Int × Int)) (w : World) (hpa : Pairs w va pa) (hpb : Pairs w vb pb) (h : n < 0 ∨ 40 < n) (hq : (a.tmod 4 == 0) = false) : Calls Try.prog 9 #[.int .i64 n, .agg #[.int .i64 a, .int .i64 b], .agg #[va, vb]] w (TruePost w) := by
  replace h := Lib.hid h
  have qa := Lib.hid hpa
  have qb := Lib.hid hpb
  obtain ⟨a1, c1, rfl⟩ := hpa.open
  obtain ⟨a2, c2, rfl⟩ := hpb.open
  clear hpa hpb
  have k0 := box_keep _ (.cells #[.slice a1 pa.length c1, .slice a2 pb.length c2] 63) (box_at w #[.int .i64 a, .int .i64 b] 42 0 _ rfl)
  have k1 := box_keep _ (.cells #[.slice a1 pa.length c1, .slice a2 pb.length c2] 63) (box_at w #[.int .i64 a, .int .i64 b] 42 1 _ rfl)
  have k2 := box_atb (w.alloc (.cells #[.int .i64 a, .int .i64 b] 42)) (w.heap.size + 1) (by simp) #[.slice a1 pa.length c1, .slice a2 pb.length c2] 63 0 _ rfl
  have k3 := box_atb (w.alloc (.cells #[.int .i64 a, .int .i64 b] 42)) (w.heap.size + 1) (by simp) #[.slice a1 pa.length c1, .slice a2 pb.length c2] 63 1 _ rfl
  have hm0 := ((Mut.refl (fun _ => False) w).alloc (.cells #[.int .i64 a, .int .i64 b] 42)).alloc (.cells #[.slice a1 pa.length c1, .slice a2 pb.length c2] 63)
  replace hm0 := Lib.hid hm0
  go_enter Try.func9, Try.ntmps9
  go_wp2_with fail
  refine (made_no n _ _ h.out).mono ?_
  rintro e w1 ⟨rfl, hm1⟩
  replace k0 := hm1.cell k0 (by simp)
  replace k1 := hm1.cell k1 (by simp)
  replace k3 := hm1.cell k3 (by simp)
  replace hm0 := Lib.hid (hm0.out.trans hm1)
  clear hm1 k2
  go_wp2_with fail
  refine (made_some _ _ pb _ (qb.out.mut hm0.out)).mono ?_
  rintro e w2 ⟨pp, sa, sl, sc, rfl, hm1⟩
  replace hm0 := Lib.hid (hm0.out.trans hm1)
  clear hm1 k0 k1 k3
  go_wp2_with fail
  refine (known_any _).mono ?_
  rintro e w4 ⟨rfl, hm1⟩
  replace hm0 := Lib.hid (hm0.out.trans hm1)
  clear hm1
  go_wp2
  go_ret
  exact ⟨rfl, hm0.out⟩

set_option maxRecDepth 8000 in
set_option maxHeartbeats 4000000 in
theorem mj_no2 (n : Nat) (a b : Int) (va vb : Value) (pa pb : List (Int × Int)) (w : World) (hpa : Pairs w va pa) (hpb : Pairs w vb pb) (hn : n ≤ 40) (h : b < 0 ∨ 40 < b) (hq : (a.tmod 4 == 0) = true) : Calls Try.prog 9 #[.int .i64 n, .agg #[.int .i64 a, .int .i64 b], .agg #[va, vb]] w (TruePost w) := by
  replace h := Lib.hid h
  have gA := Lib.hid (GoodR.fold (n := n) pa (min pa.length 60))
  have qa := Lib.hid hpa
  have qb := Lib.hid hpb
  obtain ⟨a1, c1, rfl⟩ := hpa.open
  obtain ⟨a2, c2, rfl⟩ := hpb.open
  clear hpa hpb
  have k0 := box_keep _ (.cells #[.slice a1 pa.length c1, .slice a2 pb.length c2] 63) (box_at w #[.int .i64 a, .int .i64 b] 42 0 _ rfl)
  have k1 := box_keep _ (.cells #[.slice a1 pa.length c1, .slice a2 pb.length c2] 63) (box_at w #[.int .i64 a, .int .i64 b] 42 1 _ rfl)
  have k2 := box_atb (w.alloc (.cells #[.int .i64 a, .int .i64 b] 42)) (w.heap.size + 1) (by simp) #[.slice a1 pa.length c1, .slice a2 pb.length c2] 63 0 _ rfl
  have k3 := box_atb (w.alloc (.cells #[.int .i64 a, .int .i64 b] 42)) (w.heap.size + 1) (by simp) #[.slice a1 pa.length c1, .slice a2 pb.length c2] 63 1 _ rfl
  have hm0 := ((Mut.refl (fun _ => False) w).alloc (.cells #[.int .i64 a, .int .i64 b] 42)).alloc (.cells #[.slice a1 pa.length c1, .slice a2 pb.length c2] 63)
  have hA := Lib.hid ((All.start w).quiet hm0)
  replace hm0 := Lib.hid hm0
  go_enter Try.func9, Try.ntmps9
  go_wp2_with fail
  refine (made_all hA.out hn (qa.out.mut hm0.out)).mono ?_
  rintro e w1 ⟨p1, u1, v1, rfl, hA1, hm1⟩
  replace k0 := hm1.cell k0 (by simp)
  replace k1 := hm1.cell k1 (by simp)
  replace k3 := hm1.cell k3 (by simp)
  replace hm0 := Lib.hid (hm0.out.trans hm1)
  replace hA1 := Lib.hid hA1
  obtain ⟨ra, rc, rfl⟩ := hA1.out.slice 0 rfl
  have hlA := gA.out.len
  rw [hlA] at hA1 ⊢
  replace hlA := Lib.hid hlA
  clear hm1 hA k2
  go_wp2_with fail
  refine (made_no b _ _ h.out).mono ?_
  rintro e w2 ⟨rfl, hm1⟩
  have hA2 := Lib.hid (hA1.out.quiet hm1)
  clear hm1 k0 k1 k3 hA1 hm0
  go_wp2_with fail
  refine (known_all hA2.out).mono ?_
  rintro e w4 ⟨rfl, hA3⟩
  have hE := Lib.hid hA3.mu
  clear hA2 hA3
  go_wp2
  go_ret
  exact ⟨rfl, hE.out⟩

set_option maxRecDepth 8000 in
set_option maxHeartbeats 4000000 in
theorem mj_ne (n b : Nat) (a : Int) (va vb : Value) (pa pb : List (Int × Int)) (w : World) (hpa : Pairs w va pa) (hpb : Pairs w vb pb) (hn : n ≤ 40) (hb : b ≤ 40) (hq : (a.tmod 4 == 0) = true) (hnb : n ≠ b) : Calls Try.prog 9 #[.int .i64 n, .agg #[.int .i64 a, .int .i64 b], .agg #[va, vb]] w (TruePost w) := by
  have gA := Lib.hid (GoodR.fold (n := n) pa (min pa.length 60))
  have gB := Lib.hid (GoodR.fold (n := b) pb (min pb.length 60))
  have ht : ((n : Int) != (b : Int)) = true := by simp; omega
  have qa := Lib.hid hpa
  have qb := Lib.hid hpb
  obtain ⟨a1, c1, rfl⟩ := hpa.open
  obtain ⟨a2, c2, rfl⟩ := hpb.open
  clear hpa hpb
  have k0 := box_keep _ (.cells #[.slice a1 pa.length c1, .slice a2 pb.length c2] 63) (box_at w #[.int .i64 a, .int .i64 b] 42 0 _ rfl)
  have k1 := box_keep _ (.cells #[.slice a1 pa.length c1, .slice a2 pb.length c2] 63) (box_at w #[.int .i64 a, .int .i64 b] 42 1 _ rfl)
  have k2 := box_atb (w.alloc (.cells #[.int .i64 a, .int .i64 b] 42)) (w.heap.size + 1) (by simp) #[.slice a1 pa.length c1, .slice a2 pb.length c2] 63 0 _ rfl
  have k3 := box_atb (w.alloc (.cells #[.int .i64 a, .int .i64 b] 42)) (w.heap.size + 1) (by simp) #[.slice a1 pa.length c1, .slice a2 pb.length c2] 63 1 _ rfl
  have hm0 := ((Mut.refl (fun _ => False) w).alloc (.cells #[.int .i64 a, .int .i64 b] 42)).alloc (.cells #[.slice a1 pa.length c1, .slice a2 pb.length c2] 63)
  have hA := Lib.hid ((All.start w).quiet hm0)
  replace hm0 := Lib.hid hm0
  go_enter Try.func9, Try.ntmps9
  go_wp2_with fail
  refine (made_all hA.out hn (qa.out.mut hm0.out)).mono ?_
  rintro e w1 ⟨p1, u1, v1, rfl, hA1, hm1⟩
  replace k0 := hm1.cell k0 (by simp)
  replace k1 := hm1.cell k1 (by simp)
  replace k3 := hm1.cell k3 (by simp)
  replace hm0 := Lib.hid (hm0.out.trans hm1)
  replace hA1 := Lib.hid hA1
  obtain ⟨ra, rc, rfl⟩ := hA1.out.slice 0 rfl
  have hlA := gA.out.len
  rw [hlA] at hA1 ⊢
  replace hlA := Lib.hid hlA
  clear hm1 hA k2
  go_wp2_with fail
  refine (made_all hA1.out hb (qb.out.mut hm0.out)).mono ?_
  rintro e w2 ⟨p2, u2, v2, rfl, hA2, hm1⟩
  replace hA2 := Lib.hid hA2
  obtain ⟨sa, sc, rfl⟩ := hA2.out.slice 1 rfl
  have hlB := gB.out.len
  rw [hlB] at hA2 ⊢
  replace hlB := Lib.hid hlB
  clear hm1 hA1 k0 k1 k3 hm0 qa qb
  generalize foldP n pa (min pa.length 60) = A at *
  generalize foldP b pb (min pb.length 60) = B at *
  go_wp2_with fail
  refine (meet_all_ne hA2.out 0 1 rfl rfl hnb).mono ?_
  rintro e w4 ⟨rfl, rfl⟩
  go_wp2_with fail
  refine (join_all_ne hA2.out 0 1 rfl rfl hnb).mono ?_
  rintro e w4 ⟨rfl, rfl⟩
  go_wp2_with fail
  refine (refines_all_ne hA2.out 0 1 rfl rfl hnb).mono ?_
  rintro e w4 ⟨rfl, rfl⟩
  go_wp2_with fail
  refine (known_all hA2.out).mono ?_
  rintro e w4 ⟨rfl, hA3⟩
  have hE := Lib.hid hA3.mu
  clear hA2 hA3
  go_wp2
  go_ret
  exact ⟨rfl, hE.out⟩

set_option maxRecDepth 8000 in
set_option maxHeartbeats 8000000 in
theorem mj_eq_true (n : Nat) (a b : Int) (va vb : Value) (pa pb : List (Int × Int)) (w : World) (hpa : Pairs w va pa) (hpb : Pairs w vb pb) (hn : n ≤ 40) (hq : (a.tmod 4 == 0) = true) (hbn : b = (n : Int)) : Calls Try.prog 9 #[.int .i64 n, .agg #[.int .i64 a, .int .i64 b], .agg #[va, vb]] w (TruePost w) := by
  have gA := Lib.hid (GoodR.fold (n := n) pa (min pa.length 60))
  have gB := Lib.hid (GoodR.fold (n := n) pb (min pb.length 60))
  have ht : ((n : Int) != (n : Int)) = false := by simp
  subst hbn
  have qa := Lib.hid hpa
  have qb := Lib.hid hpb
  obtain ⟨a1, c1, rfl⟩ := hpa.open
  obtain ⟨a2, c2, rfl⟩ := hpb.open
  clear hpa hpb
  have k0 := box_keep _ (.cells #[.slice a1 pa.length c1, .slice a2 pb.length c2] 63) (box_at w #[.int .i64 a, .int .i64 (n : Int)] 42 0 _ rfl)
  have k1 := box_keep _ (.cells #[.slice a1 pa.length c1, .slice a2 pb.length c2] 63) (box_at w #[.int .i64 a, .int .i64 (n : Int)] 42 1 _ rfl)
  have k2 := box_atb (w.alloc (.cells #[.int .i64 a, .int .i64 (n : Int)] 42)) (w.heap.size + 1) (by simp) #[.slice a1 pa.length c1, .slice a2 pb.length c2] 63 0 _ rfl
  have k3 := box_atb (w.alloc (.cells #[.int .i64 a, .int .i64 (n : Int)] 42)) (w.heap.size + 1) (by simp) #[.slice a1 pa.length c1, .slice a2 pb.length c2] 63 1 _ rfl
  have hm0 := ((Mut.refl (fun _ => False) w).alloc (.cells #[.int .i64 a, .int .i64 (n : Int)] 42)).alloc (.cells #[.slice a1 pa.length c1, .slice a2 pb.length c2] 63)
  have hA := Lib.hid ((All.start w).quiet hm0)
  replace hm0 := Lib.hid hm0
  go_enter Try.func9, Try.ntmps9
  go_wp2_with fail
  refine (made_all hA.out hn (qa.out.mut hm0.out)).mono ?_
  rintro e w1 ⟨p1, u1, v1, rfl, hA1, hm1⟩
  replace k0 := hm1.cell k0 (by simp)
  replace k1 := hm1.cell k1 (by simp)
  replace k3 := hm1.cell k3 (by simp)
  replace hm0 := Lib.hid (hm0.out.trans hm1)
  replace hA1 := Lib.hid hA1
  obtain ⟨ra, rc, rfl⟩ := hA1.out.slice 0 rfl
  have hlA := gA.out.len
  rw [hlA] at hA1 ⊢
  replace hlA := Lib.hid hlA
  clear hm1 hA k2
  go_wp2_with fail
  refine (made_all hA1.out hn (qb.out.mut hm0.out)).mono ?_
  rintro e w2 ⟨p2, u2, v2, rfl, hA2, hm1⟩
  replace hA2 := Lib.hid hA2
  obtain ⟨sa, sc, rfl⟩ := hA2.out.slice 1 rfl
  have hlB := gB.out.len
  rw [hlB] at hA2 ⊢
  replace hlB := Lib.hid hlB
  clear hm1 hA1 k0 k1 k3 hm0 qa qb
  generalize foldP n pa (min pa.length 60) = A at *
  generalize foldP n pb (min pb.length 60) = B at *
  go_wp2_with fail
  refine (meet_all hA2.out 0 1 rfl rfl (by decide) rfl).mono ?_
  rintro e w4 ⟨p4, u4, X, rfl, hX, hA4⟩
  replace hA4 := Lib.hid hA4
  replace hX := Lib.hid hX
  clear hA2
  go_wp2_with fail
  refine (join_all hA4.out 0 1 rfl rfl (by decide) rfl).mono ?_
  rintro e w5 ⟨p5, u5, rfl, hA5⟩
  replace hA5 := Lib.hid hA5
  clear hA4
  go_wp2_with fail
  refine (rmeet_all hA5.out 0 1 rfl rfl (by rw [hlA.out]; omega) (by rw [hlA.out, hlB.out])).mono ?_
  rw [hlA.out]
  rintro e w6 ⟨v6, X', rfl, hX', hA6⟩
  obtain rfl := hX.out.unique hX'
  replace hA6 := Lib.hid hA6
  obtain ⟨xa, xc, rfl⟩ := hA6.out.slice 2 rfl
  clear hA5
  go_wp2_with fail
  refine (same_all hA6.out 2 2 rfl rfl).mono ?_
  rintro e w7 ⟨rfl, hA7⟩
  replace hA7 := Lib.hid hA7
  clear hA6
  go_wp2_with fail
  refine (rover_all hA7.out 0 1 rfl rfl (by omega) gA.out gB.out).mono ?_
  rintro e w8 ⟨v8, rfl, hA8⟩
  replace hA8 := Lib.hid hA8
  obtain ⟨ya, yc, rfl⟩ := hA8.out.slice 3 rfl
  clear hA7
  have hYA := Lib.hid (join_left (V := B) gA.out)
  have hYB := Lib.hid (join_right gA.out gB.out)
  generalize overTo n A B n = Y at *
  go_wp2_with fail
  refine (same_all hA8.out 3 3 rfl rfl).mono ?_
  rintro e w9 ⟨rfl, hA9⟩
  replace hA9 := Lib.hid hA9
  clear hA8
  have hbb : (refB n A B != refB n A B) = false := by simp
  generalize hbq : refB n A B = bq at *
  replace hbq := Lib.hid hbq
  go_wp2_with fail
  refine (refines_all hA9.out 0 1 rfl rfl (by decide) rfl).mono ?_
  rw [hbq.out]
  rintro e w10 ⟨rfl, hA10⟩
  replace hA10 := Lib.hid hA10
  clear hA9
  go_wp2_with fail
  refine (rfiner_all hA10.out 0 1 rfl rfl (by omega) gA.out gB.out).mono ?_
  rw [hbq.out]
  rintro e w11 ⟨rfl, hA11⟩
  replace hA11 := Lib.hid hA11
  clear hA10
  have t1 := Lib.hid (refB_by hX.out)
  have t2 := Lib.hid (refB_by2 hX.out)
  go_wp2_with fail
  refine (refines_all hA11.out 2 0 rfl rfl (by decide) rfl).mono ?_
  rw [t1.out]
  rintro e w12 ⟨rfl, hA12⟩
  replace hA12 := Lib.hid hA12
  clear hA11
  go_wp2_with fail
  refine (refines_all hA12.out 2 1 rfl rfl (by decide) rfl).mono ?_
  rw [t2.out]
  rintro e w13 ⟨rfl, hA13⟩
  replace hA13 := Lib.hid hA13
  clear hA12
  go_wp2_with fail
  refine (refines_all hA13.out 0 3 rfl rfl (by decide) rfl).mono ?_
  rw [hYA.out]
  rintro e w14 ⟨rfl, hA14⟩
  replace hA14 := Lib.hid hA14
  clear hA13
  go_wp2_with fail
  refine (refines_all hA14.out 1 3 rfl rfl (by decide) rfl).mono ?_
  rw [hYB.out]
  rintro e w15 ⟨rfl, hA15⟩
  replace hA15 := Lib.hid hA15
  clear hA14
  go_wp2_with fail
  refine (same_all hA15.out 0 0 rfl rfl).mono ?_
  rintro e w16 ⟨rfl, hA16⟩
  replace hA16 := Lib.hid hA16
  clear hA15
  go_wp2_with fail
  refine (same_all hA16.out 1 1 rfl rfl).mono ?_
  rintro e w17 ⟨rfl, hA17⟩
  replace hA17 := Lib.hid hA17
  clear hA16
  go_wp2_with fail
  refine (known_all hA17.out).mono ?_
  rintro e w18 ⟨rfl, hA18⟩
  have hE := Lib.hid hA18.mu
  clear hA17 hA18
  go_wp2
  go_ret
  exact ⟨rfl, hE.out⟩

set_option maxRecDepth 8000 in
set_option maxHeartbeats 8000000 in
theorem mj_eq_false (n : Nat) (a b : Int) (va vb : Value) (pa pb : List (Int × Int)) (w : World) (hpa : Pairs w va pa) (hpb : Pairs w vb pb) (hn : n ≤ 40) (hq : (a.tmod 4 == 0) = false) : Calls Try.prog 9 #[.int .i64 n, .agg #[.int .i64 a, .int .i64 b], .agg #[va, vb]] w (TruePost w) := by
  have gA := Lib.hid (GoodR.fold (n := n) pa (min pa.length 60))
  have gB := Lib.hid (GoodR.fold (n := n) pb (min pb.length 60))
  have ht : ((n : Int) != (n : Int)) = false := by simp
  have qa := Lib.hid hpa
  have qb := Lib.hid hpb
  obtain ⟨a1, c1, rfl⟩ := hpa.open
  obtain ⟨a2, c2, rfl⟩ := hpb.open
  clear hpa hpb
  have k0 := box_keep _ (.cells #[.slice a1 pa.length c1, .slice a2 pb.length c2] 63) (box_at w #[.int .i64 a, .int .i64 b] 42 0 _ rfl)
  have k1 := box_keep _ (.cells #[.slice a1 pa.length c1, .slice a2 pb.length c2] 63) (box_at w #[.int .i64 a, .int .i64 b] 42 1 _ rfl)
  have k2 := box_atb (w.alloc (.cells #[.int .i64 a, .int .i64 b] 42)) (w.heap.size + 1) (by simp) #[.slice a1 pa.length c1, .slice a2 pb.length c2] 63 0 _ rfl
  have k3 := box_atb (w.alloc (.cells #[.int .i64 a, .int .i64 b] 42)) (w.heap.size + 1) (by simp) #[.slice a1 pa.length c1, .slice a2 pb.length c2] 63 1 _ rfl
  have hm0 := ((Mut.refl (fun _ => False) w).alloc (.cells #[.int .i64 a, .int .i64 b] 42)).alloc (.cells #[.slice a1 pa.length c1, .slice a2 pb.length c2] 63)
  have hA := Lib.hid ((All.start w).quiet hm0)
  replace hm0 := Lib.hid hm0
  go_enter Try.func9, Try.ntmps9
  go_wp2_with fail
  refine (made_all hA.out hn (qa.out.mut hm0.out)).mono ?_
  rintro e w1 ⟨p1, u1, v1, rfl, hA1, hm1⟩
  replace k0 := hm1.cell k0 (by simp)
  replace k1 := hm1.cell k1 (by simp)
  replace k3 := hm1.cell k3 (by simp)
  replace hm0 := Lib.hid (hm0.out.trans hm1)
  replace hA1 := Lib.hid hA1
  obtain ⟨ra, rc, rfl⟩ := hA1.out.slice 0 rfl
  have hlA := gA.out.len
  rw [hlA] at hA1 ⊢
  replace hlA := Lib.hid hlA
  clear hm1 hA k2
  go_wp2_with fail
  refine (made_all hA1.out hn (qb.out.mut hm0.out)).mono ?_
  rintro e w2 ⟨p2, u2, v2, rfl, hA2, hm1⟩
  replace hA2 := Lib.hid hA2
  obtain ⟨sa, sc, rfl⟩ := hA2.out.slice 1 rfl
  have hlB := gB.out.len
  rw [hlB] at hA2 ⊢
  replace hlB := Lib.hid hlB
  clear hm1 hA1 k0 k1 k3 hm0 qa qb
  generalize foldP n pa (min pa.length 60) = A at *
  generalize foldP n pb (min pb.length 60) = B at *
  go_wp2_with fail
  refine (meet_all hA2.out 0 1 rfl rfl (by decide) rfl).mono ?_
  rintro e w4 ⟨p4, u4, X, rfl, hX, hA4⟩
  replace hA4 := Lib.hid hA4
  replace hX := Lib.hid hX
  clear hA2
  go_wp2_with fail
  refine (join_all hA4.out 0 1 rfl rfl (by decide) rfl).mono ?_
  rintro e w5 ⟨p5, u5, rfl, hA5⟩
  replace hA5 := Lib.hid hA5
  clear hA4
  go_wp2_with fail
  refine (rmeet_all hA5.out 0 1 rfl rfl (by rw [hlA.out]; omega) (by rw [hlA.out, hlB.out])).mono ?_
  rw [hlA.out]
  rintro e w6 ⟨v6, X', rfl, hX', hA6⟩
  obtain rfl := hX.out.unique hX'
  replace hA6 := Lib.hid hA6
  obtain ⟨xa, xc, rfl⟩ := hA6.out.slice 2 rfl
  clear hA5
  go_wp2_with fail
  refine (same_all hA6.out 2 2 rfl rfl).mono ?_
  rintro e w7 ⟨rfl, hA7⟩
  replace hA7 := Lib.hid hA7
  clear hA6
  go_wp2_with fail
  refine (rover_all hA7.out 0 1 rfl rfl (by omega) gA.out gB.out).mono ?_
  rintro e w8 ⟨v8, rfl, hA8⟩
  replace hA8 := Lib.hid hA8
  obtain ⟨ya, yc, rfl⟩ := hA8.out.slice 3 rfl
  clear hA7
  have hYA := Lib.hid (join_left (V := B) gA.out)
  have hYB := Lib.hid (join_right gA.out gB.out)
  generalize overTo n A B n = Y at *
  go_wp2_with fail
  refine (same_all hA8.out 3 3 rfl rfl).mono ?_
  rintro e w9 ⟨rfl, hA9⟩
  replace hA9 := Lib.hid hA9
  clear hA8
  have hbb : (refB n A B != refB n A B) = false := by simp
  generalize hbq : refB n A B = bq at *
  replace hbq := Lib.hid hbq
  go_wp2_with fail
  refine (refines_all hA9.out 0 1 rfl rfl (by decide) rfl).mono ?_
  rw [hbq.out]
  rintro e w10 ⟨rfl, hA10⟩
  replace hA10 := Lib.hid hA10
  clear hA9
  go_wp2_with fail
  refine (rfiner_all hA10.out 0 1 rfl rfl (by omega) gA.out gB.out).mono ?_
  rw [hbq.out]
  rintro e w11 ⟨rfl, hA11⟩
  replace hA11 := Lib.hid hA11
  clear hA10
  have t1 := Lib.hid (refB_by hX.out)
  have t2 := Lib.hid (refB_by2 hX.out)
  go_wp2_with fail
  refine (refines_all hA11.out 2 0 rfl rfl (by decide) rfl).mono ?_
  rw [t1.out]
  rintro e w12 ⟨rfl, hA12⟩
  replace hA12 := Lib.hid hA12
  clear hA11
  go_wp2_with fail
  refine (refines_all hA12.out 2 1 rfl rfl (by decide) rfl).mono ?_
  rw [t2.out]
  rintro e w13 ⟨rfl, hA13⟩
  replace hA13 := Lib.hid hA13
  clear hA12
  go_wp2_with fail
  refine (refines_all hA13.out 0 3 rfl rfl (by decide) rfl).mono ?_
  rw [hYA.out]
  rintro e w14 ⟨rfl, hA14⟩
  replace hA14 := Lib.hid hA14
  clear hA13
  go_wp2_with fail
  refine (refines_all hA14.out 1 3 rfl rfl (by decide) rfl).mono ?_
  rw [hYB.out]
  rintro e w15 ⟨rfl, hA15⟩
  replace hA15 := Lib.hid hA15
  clear hA14
  go_wp2_with fail
  refine (same_all hA15.out 0 0 rfl rfl).mono ?_
  rintro e w16 ⟨rfl, hA16⟩
  replace hA16 := Lib.hid hA16
  clear hA15
  go_wp2_with fail
  refine (same_all hA16.out 1 1 rfl rfl).mono ?_
  rintro e w17 ⟨rfl, hA17⟩
  replace hA17 := Lib.hid hA17
  clear hA16
  go_wp2_with fail
  refine (known_all hA17.out).mono ?_
  rintro e w18 ⟨rfl, hA18⟩
  have hE := Lib.hid hA18.mu
  clear hA17 hA18
  go_wp2
  go_ret
  exact ⟨rfl, hE.out⟩

theorem meetjoin_walk (n a b : Int) (va vb : Value) (pa pb : List (Int × Int)) (w : World) (hpa : Pairs w va pa) (hpb : Pairs w vb pb) :
    Calls Try.prog 9 #[.int .i64 n, .agg #[.int .i64 a, .int .i64 b], .agg #[va, vb]] w fun e w' => e = .returned (.bool true) ∧ Below w.heap.size w w' := by
  have key : Calls Try.prog 9 #[.int .i64 n, .agg #[.int .i64 a, .int .i64 b], .agg #[va, vb]] w (TruePost w) := by
    by_cases hn : n < 0 ∨ 40 < n
    · cases hq : (a.tmod 4 == 0) with
      | true => exact mj_no1_true n a b va vb pa pb w hpa hpb hn hq
      | false => exact mj_no1_false n a b va vb pa pb w hpa hpb hn hq
    · obtain ⟨k, rfl⟩ := Int.eq_ofNat_of_zero_le (show 0 ≤ n by omega)
      cases hq : (a.tmod 4 == 0) with
      | false => exact mj_eq_false k a b va vb pa pb w hpa hpb (by omega) hq
      | true =>
        by_cases hb : b < 0 ∨ 40 < b
        · exact mj_no2 k a b va vb pa pb w hpa hpb (by omega) hb hq
        · obtain ⟨m, rfl⟩ := Int.eq_ofNat_of_zero_le (show 0 ≤ b by omega)
          by_cases e : k = m
          · exact mj_eq_true k a m va vb pa pb w hpa hpb (by omega) hq (by omega)
          · exact mj_ne k m a va vb pa pb w hpa hpb (by omega) (by omega) hq e
  exact key.mono fun e w' h => ⟨h.1, h.2.below⟩
end Go.Proofs.Ytojfpobgncapjaa
