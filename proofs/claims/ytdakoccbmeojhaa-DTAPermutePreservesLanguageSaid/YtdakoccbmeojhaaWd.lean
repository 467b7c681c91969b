/- Contracts: size, depth, the check of a tree, both of the program and of the reference. Condition: a tree in memory. -/
import Derived.Test.YtdakoccbmeojhaaWc
set_option linter.unusedSimpArgs false
set_option linter.unusedVariables false
set_option maxHeartbeats 400000
namespace Go.Proofs.Ytdakoccbmeojhaa
open Go Go.RowKit Go.PP

theorem nodes_at {d : Nat} {r : List Int} {l : List Tr} {j y : Nat} (hy : y ≠ 0) (h : (l.take (j + 1)).foldl (fun e x => if e ≠ 0 then e else nodesE d r x) 0 = y) : (l.take l.length).foldl (fun e x => if e ≠ 0 then e else nodesE d r x) 0 = y := by
  rw [List.take_length]
  conv => lhs; rw [← List.take_append_drop (j + 1) l]
  rw [List.foldl_append, h]
  exact nodes_stop hy _
theorem sizeW_node (d : Nat) (s : Int) (l : List Tr) : sizeW (d + 1) (.node s l) = (l.take l.length).foldl (fun n x => wrap64 (n + sizeW d x)) 1 := by rw [List.take_length]; rfl
theorem deepW_node (d : Nat) (s : Int) (l : List Tr) : deepW (d + 1) (.node s l) = wrap64 ((l.take l.length).foldl (fun n x => max n (deepW d x)) 0 + 1) := by rw [List.take_length]; rfl

set_option maxRecDepth 8000 in
set_option maxHeartbeats 2000000 in
theorem size_any : ∀ (d : Nat) (s : Int) (v : Value) (t : Tr) (w : World), TreeIn (fun _ => False) w d s v t → Calls Try.prog 79 #[.agg #[.int .i64 s, v]] w (RetPost w (.int .i64 (sizeW d t))) := by
  intro d
  induction d with
  | zero => intro s v t w h; exact h.elim
  | succ d ih =>
    intro s v t w ht
    obtain ⟨s', l⟩ := t
    have ht0 := Lib.hid ht
    obtain ⟨rfl, a, c, rfl, hl⟩ := ht.open
    have hll : l.length ≤ 9223372036854775807 := by omega
    clear ht hl
    have hm := (Mut.refl (fun _ => False) w).alloc (.cells #[.int .i64 s, .slice a l.length c] 39)
    have hB := Lib.hid (BoxT.mk' w s (.slice a l.length c) 39)
    replace hm := Lib.hid hm
    replace ih := Lib.hid ih
    have hk0 := hB.out.c1
    rw [sizeW_node]
    go_enter Try.func79, Try.ntmps79
    go_wp2
    go_loopw [3, 9] (fun n i wr => ∃ j : Nat, j ≤ l.length ∧ i = .int .i64 j ∧ n = .int .i64 ((l.take j).foldl (fun n x => wrap64 (n + sizeW d x)) 1) ∧ BoxT w.heap.size s (.slice a l.length c) wr ∧ Fix w wr) (fun _ i _ => l.length - (intOf i).toNat)
    case atStart => exact ⟨0, by omega, rfl, rfl, hB.out, hm.out⟩
    case round =>
      obtain ⟨j, hj, rfl, rfl, hB1, hm1⟩ := hrel
      clear hB hk0 hm
      obtain ⟨k0, k1⟩ := hB1
      by_cases hlt : j < l.length
      · obtain ⟨b, off, c', s1, v1, t1, hv, hx, q1, q2, h1⟩ := ht0.out.slot hm1 hlt
        simp only [Value.slice.injEq, true_and] at hv
        obtain ⟨rfl, rfl⟩ := hv
        obtain ⟨ra, rn, rc, rfl⟩ := h1.shape
        have hsn := Lib.hid (foldl_snoc (fun n x => wrap64 (n + sizeW d x)) (1 : Int) l j t1 hx)
        replace h1 := Lib.hid (h1.fix hm1)
        replace hm1 := Lib.hid hm1
        clear hx
        generalize (l.take j).foldl (fun n x => wrap64 (n + sizeW d x)) 1 = acc at *
        go_wp2_with fail
        refine (ih.out s1 _ t1 _ (h1.out.fix ((Mut.refl _ _).alloc _))).mono ?_
        rintro e w2 ⟨rfl, hm2⟩
        replace hm2 := ((Mut.refl (fun _ => False) wr).alloc (.cells #[.int .i64 s1, .slice ra rn rc] 39)).trans hm2
        have hB2 := Lib.hid ((BoxT.mk k0 k1).fix hm2)
        replace hm1 := Lib.hid (hm1.out.trans hm2)
        clear hm2
        generalize sizeW d t1 = y at *
        go_wp2
        go_roundw
        case rel => exact ⟨j + 1, by omega, by go_num, by rw [hsn.out], hB2.out, hm1.out⟩
        case measure => simp [intOf]; omega
      · obtain rfl : j = l.length := by omega
        replace hm1 := Lib.hid hm1
        generalize hacc : (l.take l.length).foldl (fun n x => wrap64 (n + sizeW d x)) 1 = acc at *
        replace hacc := Lib.hid hacc
        go_wp2
        go_ret
        exact ⟨by rw [hacc.out]; rfl, hm1.out⟩

set_option maxRecDepth 8000 in
set_option maxHeartbeats 2000000 in
theorem rsize_any : ∀ (d : Nat) (s : Int) (v : Value) (t : Tr) (w : World), TreeIn (fun _ => False) w d s v t → Calls Try.prog 41 #[.agg #[.int .i64 s, v]] w (RetPost w (.int .i64 (sizeW d t))) := by
  intro d
  induction d with
  | zero => intro s v t w h; exact h.elim
  | succ d ih =>
    intro s v t w ht
    obtain ⟨s', l⟩ := t
    have ht0 := Lib.hid ht
    obtain ⟨rfl, a, c, rfl, hl⟩ := ht.open
    have hll : l.length ≤ 9223372036854775807 := by omega
    clear ht hl
    have hm := (Mut.refl (fun _ => False) w).alloc (.cells #[.int .i64 s, .slice a l.length c] 29)
    have hB := Lib.hid (BoxT.mk' w s (.slice a l.length c) 29)
    replace hm := Lib.hid hm
    replace ih := Lib.hid ih
    have hk0 := hB.out.c1
    rw [sizeW_node]
    go_enter Try.func41, Try.ntmps41
    go_wp2
    go_loopw [3, 4] (fun n i wr => ∃ j : Nat, j ≤ l.length ∧ i = .int .i64 j ∧ n = .int .i64 ((l.take j).foldl (fun n x => wrap64 (n + sizeW d x)) 1) ∧ BoxT w.heap.size s (.slice a l.length c) wr ∧ Fix w wr) (fun _ i _ => l.length - (intOf i).toNat)
    case atStart => exact ⟨0, by omega, rfl, rfl, hB.out, hm.out⟩
    case round =>
      obtain ⟨j, hj, rfl, rfl, hB1, hm1⟩ := hrel
      clear hB hk0 hm
      obtain ⟨k0, k1⟩ := hB1
      by_cases hlt : j < l.length
      · obtain ⟨b, off, c', s1, v1, t1, hv, hx, q1, q2, h1⟩ := ht0.out.slot hm1 hlt
        simp only [Value.slice.injEq, true_and] at hv
        obtain ⟨rfl, rfl⟩ := hv
        obtain ⟨ra, rn, rc, rfl⟩ := h1.shape
        have hsn := Lib.hid (foldl_snoc (fun n x => wrap64 (n + sizeW d x)) (1 : Int) l j t1 hx)
        replace h1 := Lib.hid (h1.fix hm1)
        replace hm1 := Lib.hid hm1
        clear hx
        generalize (l.take j).foldl (fun n x => wrap64 (n + sizeW d x)) 1 = acc at *
        go_wp2_with fail
        refine (ih.out s1 _ t1 _ (h1.out)).mono ?_
        rintro e w2 ⟨rfl, hm2⟩
        skip
        have hB2 := Lib.hid ((BoxT.mk k0 k1).fix hm2)
        replace hm1 := Lib.hid (hm1.out.trans hm2)
        clear hm2
        generalize sizeW d t1 = y at *
        go_wp2
        go_roundw
        case rel => exact ⟨j + 1, by omega, by go_num, by rw [hsn.out], hB2.out, hm1.out⟩
        case measure => simp [intOf]; omega
      · obtain rfl : j = l.length := by omega
        replace hm1 := Lib.hid hm1
        generalize hacc : (l.take l.length).foldl (fun n x => wrap64 (n + sizeW d x)) 1 = acc at *
        replace hacc := Lib.hid hacc
        go_wp2
        go_ret
        exact ⟨by rw [hacc.out]; rfl, hm1.out⟩

set_option maxRecDepth 8000 in
set_option maxHeartbeats 2000000 in
theorem deep_any : ∀ (d : Nat) (s : Int) (v : Value) (t : Tr) (w : World), TreeIn (fun _ => False) w d s v t → Calls Try.prog 80 #[.agg #[.int .i64 s, v]] w (RetPost w (.int .i64 (deepW d t))) := by
  intro d
  induction d with
  | zero => intro s v t w h; exact h.elim
  | succ d ih =>
    intro s v t w ht
    obtain ⟨s', l⟩ := t
    have ht0 := Lib.hid ht
    obtain ⟨rfl, a, c, rfl, hl⟩ := ht.open
    have hll : l.length ≤ 9223372036854775807 := by omega
    clear ht hl
    have hm := (Mut.refl (fun _ => False) w).alloc (.cells #[.int .i64 s, .slice a l.length c] 39)
    have hB := Lib.hid (BoxT.mk' w s (.slice a l.length c) 39)
    replace hm := Lib.hid hm
    replace ih := Lib.hid ih
    have hk0 := hB.out.c1
    rw [deepW_node]
    go_enter Try.func80, Try.ntmps80
    go_wp2
    go_loopw [3, 9] (fun n i wr => ∃ j : Nat, j ≤ l.length ∧ i = .int .i64 j ∧ n = .int .i64 ((l.take j).foldl (fun n x => max n (deepW d x)) 0) ∧ BoxT w.heap.size s (.slice a l.length c) wr ∧ Fix w wr) (fun _ i _ => l.length - (intOf i).toNat)
    case atStart => exact ⟨0, by omega, rfl, rfl, hB.out, hm.out⟩
    case round =>
      obtain ⟨j, hj, rfl, rfl, hB1, hm1⟩ := hrel
      clear hB hk0 hm
      obtain ⟨k0, k1⟩ := hB1
      by_cases hlt : j < l.length
      · obtain ⟨b, off, c', s1, v1, t1, hv, hx, q1, q2, h1⟩ := ht0.out.slot hm1 hlt
        simp only [Value.slice.injEq, true_and] at hv
        obtain ⟨rfl, rfl⟩ := hv
        obtain ⟨ra, rn, rc, rfl⟩ := h1.shape
        have hsn := Lib.hid (foldl_snoc (fun n x => max n (deepW d x)) (0 : Int) l j t1 hx)
        replace h1 := Lib.hid (h1.fix hm1)
        replace hm1 := Lib.hid hm1
        clear hx
        generalize (l.take j).foldl (fun n x => max n (deepW d x)) 0 = acc at *
        go_wp2_with fail
        refine (ih.out s1 _ t1 _ (h1.out.fix ((Mut.refl _ _).alloc _))).mono ?_
        rintro e w2 ⟨rfl, hm2⟩
        replace hm2 := ((Mut.refl (fun _ => False) wr).alloc (.cells #[.int .i64 s1, .slice ra rn rc] 39)).trans hm2
        have hB2 := Lib.hid ((BoxT.mk k0 k1).fix hm2)
        replace hm1 := Lib.hid (hm1.out.trans hm2)
        clear hm2
        generalize deepW d t1 = y at *
        go_wp2
        go_roundw
        case rel => exact ⟨j + 1, by omega, by go_num, by rw [hsn.out]; congr 1; split <;> omega, hB2.out, hm1.out⟩
        case measure => simp [intOf]; omega
      · obtain rfl : j = l.length := by omega
        replace hm1 := Lib.hid hm1
        generalize hacc : (l.take l.length).foldl (fun n x => max n (deepW d x)) 0 = acc at *
        replace hacc := Lib.hid hacc
        go_wp2
        go_ret
        exact ⟨by rw [hacc.out]; rfl, hm1.out⟩

set_option maxRecDepth 8000 in
set_option maxHeartbeats 2000000 in
theorem rdeep_any : ∀ (d : Nat) (s : Int) (v : Value) (t : Tr) (w : World), TreeIn (fun _ => False) w d s v t → Calls Try.prog 40 #[.agg #[.int .i64 s, v]] w (RetPost w (.int .i64 (deepW d t))) := by
  intro d
  induction d with
  | zero => intro s v t w h; exact h.elim
  | succ d ih =>
    intro s v t w ht
    obtain ⟨s', l⟩ := t
    have ht0 := Lib.hid ht
    obtain ⟨rfl, a, c, rfl, hl⟩ := ht.open
    have hll : l.length ≤ 9223372036854775807 := by omega
    clear ht hl
    have hm := (Mut.refl (fun _ => False) w).alloc (.cells #[.int .i64 s, .slice a l.length c] 29)
    have hB := Lib.hid (BoxT.mk' w s (.slice a l.length c) 29)
    replace hm := Lib.hid hm
    replace ih := Lib.hid ih
    have hk0 := hB.out.c1
    rw [deepW_node]
    go_enter Try.func40, Try.ntmps40
    go_wp2
    go_loopw [3, 4] (fun n i wr => ∃ j : Nat, j ≤ l.length ∧ i = .int .i64 j ∧ n = .int .i64 ((l.take j).foldl (fun n x => max n (deepW d x)) 0) ∧ BoxT w.heap.size s (.slice a l.length c) wr ∧ Fix w wr) (fun _ i _ => l.length - (intOf i).toNat)
    case atStart => exact ⟨0, by omega, rfl, rfl, hB.out, hm.out⟩
    case round =>
      obtain ⟨j, hj, rfl, rfl, hB1, hm1⟩ := hrel
      clear hB hk0 hm
      obtain ⟨k0, k1⟩ := hB1
      by_cases hlt : j < l.length
      · obtain ⟨b, off, c', s1, v1, t1, hv, hx, q1, q2, h1⟩ := ht0.out.slot hm1 hlt
        simp only [Value.slice.injEq, true_and] at hv
        obtain ⟨rfl, rfl⟩ := hv
        obtain ⟨ra, rn, rc, rfl⟩ := h1.shape
        have hsn := Lib.hid (foldl_snoc (fun n x => max n (deepW d x)) (0 : Int) l j t1 hx)
        replace h1 := Lib.hid (h1.fix hm1)
        replace hm1 := Lib.hid hm1
        clear hx
        generalize (l.take j).foldl (fun n x => max n (deepW d x)) 0 = acc at *
        go_wp2_with fail
        refine (ih.out s1 _ t1 _ (h1.out)).mono ?_
        rintro e w2 ⟨rfl, hm2⟩
        skip
        have hB2 := Lib.hid ((BoxT.mk k0 k1).fix hm2)
        replace hm1 := Lib.hid (hm1.out.trans hm2)
        clear hm2
        generalize deepW d t1 = y at *
        by_cases hgt : acc < y
        · have hmx := Lib.hid (show max acc y = y by omega)
          go_wp2
          go_roundw
          case rel => exact ⟨j + 1, by omega, by go_num, by rw [hsn.out, hmx.out], hB2.out, hm1.out⟩
          case measure => simp [intOf]; omega
        · have hmx := Lib.hid (show max acc y = acc by omega)
          go_wp2
          go_roundw
          case rel => exact ⟨j + 1, by omega, by go_num, by rw [hsn.out, hmx.out], hB2.out, hm1.out⟩
          case measure => simp [intOf]; omega
      · obtain rfl : j = l.length := by omega
        replace hm1 := Lib.hid hm1
        generalize hacc : (l.take l.length).foldl (fun n x => max n (deepW d x)) 0 = acc at *
        replace hacc := Lib.hid hacc
        go_wp2
        go_ret
        exact ⟨by rw [hacc.out]; rfl, hm1.out⟩

set_option maxRecDepth 8000 in
set_option maxHeartbeats 2000000 in
theorem nodes_any (r : List Int) (vr : Value) : ∀ (d : Nat) (s : Int) (v : Value) (t : Tr) (w : World), TreeIn (fun _ => False) w d s v t → Ints (fun _ => False) w vr r → Calls Try.prog 69 #[vr, .agg #[.int .i64 s, v]] w (RetPost w (.int .i64 (nodesE d r t : Nat))) := by
  intro d
  induction d with
  | zero => intro s v t w h _; exact h.elim
  | succ d ih =>
    intro s v t w ht hr
    have hr0 := Lib.hid hr
    obtain ⟨xa, xc, rfl, hrl⟩ := hr.open'
    clear hr
    obtain ⟨s', l⟩ := t
    have ht0 := Lib.hid ht
    obtain ⟨rfl, a, c, rfl, hl⟩ := ht.open
    have hll : l.length ≤ 9223372036854775807 := by omega
    clear ht hl
    have hm := (Mut.refl (fun _ => False) w).alloc (.cells #[.int .i64 s, .slice a l.length c] 39)
    have hB := Lib.hid (BoxT.mk' w s (.slice a l.length c) 39)
    replace hm := Lib.hid hm
    replace ih := Lib.hid ih
    have hk0 := hB.out.c0
    have hk1 := hB.out.c1
    generalize hE : nodesE (d + 1) r (.node s l) = E
    replace hE := Lib.hid hE
    by_cases hs0 : s < 0
    · have hE6 : E = 6 := by rw [← hE.out, nodesE, if_pos (.inl hs0)]
      subst hE6
      go_enter Try.func69, Try.ntmps69
      go_wp2
      go_ret
      exact ⟨rfl, hm.out⟩
    by_cases hs1 : (r.length : Int) ≤ s
    · have hE6 : E = 6 := by rw [← hE.out, nodesE, if_pos (.inr hs1)]
      have hd0 : decide (s < 0) = false := by simp; omega
      subst hE6
      go_enter Try.func69, Try.ntmps69
      go_wp2
      go_ret
      exact ⟨rfl, hm.out⟩
    have hd0 : decide (s < 0) = false := by simp; omega
    have hd1 : decide ((r.length : Int) ≤ s) = false := by simp; omega
    obtain ⟨i0, rfl⟩ := Int.eq_ofNat_of_zero_le (show 0 ≤ s by omega)
    have hi0 : i0 < r.length := by omega
    obtain ⟨rb, ro, k, rfl, hk, hck⟩ := hr0.out.slot hm.out hi0
    have hgd : r.getD (i0 : Int).toNat 0 = k := by simp [List.getD, hk]
    replace hk := Lib.hid hk
    by_cases hlk : (l.length : Int) = k
    rotate_left
    · have hE3 : E = 3 := by rw [← hE.out, nodesE, if_neg (by omega), if_pos (by rw [hgd]; exact hlk)]
      have ht : ((l.length : Int) != k) = true := by simp; exact hlk
      subst hE3
      replace hlk := Lib.hid hlk
      replace hgd := Lib.hid hgd
      go_enter Try.func69, Try.ntmps69
      go_wp2
      go_quiet (fail)
      go_wp2
      go_ret
      exact ⟨rfl, hm.out.drewN _⟩
    have hE4 : E = (l.take l.length).foldl (fun e x => if e ≠ 0 then e else nodesE d r x) 0 := by rw [← hE.out, nodesE, if_neg (by omega), if_neg (by rw [hgd]; omega), List.take_length]
    have ht : ((l.length : Int) != k) = false := by simp; exact hlk
    replace hE4 := Lib.hid hE4
    replace hlk := Lib.hid hlk
    replace hgd := Lib.hid hgd
    clear hE
    go_enter Try.func69, Try.ntmps69
    go_wp2
    go_quiet (fail)
    go_wp2
    go_loopw [32] (fun i wr => ∃ j : Nat, j ≤ l.length ∧ i = .int .i64 j ∧ (l.take j).foldl (fun e x => if e ≠ 0 then e else nodesE d r x) 0 = 0 ∧ BoxT w.heap.size (i0 : Nat) (.slice a l.length c) wr ∧ Fix w wr) (fun i _ => l.length - (intOf i).toNat)
    case atStart => exact ⟨0, by omega, rfl, rfl, hB.out.fix ((Mut.refl (fun _ => False) _).drewN _), hm.out.drewN _⟩
    case round =>
      obtain ⟨j, hj, rfl, hz, hB1, hm1⟩ := hrel
      clear hB hk0 hk1 hm hck
      obtain ⟨k0, k1⟩ := hB1
      replace hz := Lib.hid hz
      by_cases hlt : j < l.length
      · obtain ⟨b, off, c', s1, v1, t1, hv, hx, q1, q2, h1⟩ := ht0.out.slot hm1 hlt
        simp only [Value.slice.injEq, true_and] at hv
        obtain ⟨rfl, rfl⟩ := hv
        obtain ⟨ra, rn, rc, rfl⟩ := h1.shape
        have hsn := Lib.hid (foldl_snoc (fun e x => if e ≠ 0 then e else nodesE d r x) 0 l j t1 hx)
        have hdr := Lib.hid (List.drop_eq_getElem_cons hlt)
        replace h1 := Lib.hid (h1.fix hm1)
        have hr1 := Lib.hid (hr0.out.fix hm1)
        replace hm1 := Lib.hid hm1
        have hget : l[j] = t1 := by rw [List.getElem?_eq_getElem hlt] at hx; exact Option.some.inj hx
        replace hget := Lib.hid hget
        clear hx
        go_wp2_with fail
        refine (ih.out s1 _ t1 _ (h1.out.fix ((Mut.refl _ _).alloc _)) (hr1.out.fix ((Mut.refl _ _).alloc _))).mono ?_
        rintro e w2 ⟨rfl, hm2⟩
        replace hm2 := ((Mut.refl (fun _ => False) wr).alloc (.cells #[.int .i64 s1, .slice ra rn rc] 39)).trans hm2
        have hB2 := Lib.hid ((BoxT.mk k0 k1).fix hm2)
        replace hm1 := Lib.hid (hm1.out.trans hm2)
        clear hm2
        generalize hy : nodesE d r t1 = y at *
        by_cases hy0 : y = 0
        · subst hy0
          replace hy := Lib.hid hy
          go_wp2
          go_roundw
          case rel => exact ⟨j + 1, by omega, by go_num, by rw [hsn.out, hz.out]; rfl, hB2.out, hm1.out⟩
          case measure => simp [intOf]; omega
        · have hty : ((y : Int) != 0) = true := by simp; exact hy0
          have hEy : E = y := by
            rw [hE4.out]
            exact nodes_at hy0 (by rw [hsn.out, hz.out]; rfl)
          subst hEy
          replace hy := Lib.hid hy
          replace hy0 := Lib.hid hy0
          go_wp2
          go_ret
          exact ⟨rfl, hm1.out⟩
      · obtain rfl : j = l.length := by omega
        have hE0 : E = 0 := by rw [hE4.out, hz.out]
        subst hE0
        replace hm1 := Lib.hid hm1
        go_wp2
        go_ret
        exact ⟨rfl, hm1.out⟩

set_option maxRecDepth 8000 in
set_option maxHeartbeats 2000000 in
theorem rnodes_any (r : List Int) (vr : Value) : ∀ (d : Nat) (s : Int) (v : Value) (t : Tr) (w : World), TreeIn (fun _ => False) w d s v t → Ints (fun _ => False) w vr r → Calls Try.prog 72 #[vr, .agg #[.int .i64 s, v]] w (RetPost w (.int .i64 (nodesE d r t : Nat))) := by
  intro d
  induction d with
  | zero => intro s v t w h _; exact h.elim
  | succ d ih =>
    intro s v t w ht hr
    have hr0 := Lib.hid hr
    obtain ⟨xa, xc, rfl, hrl⟩ := hr.open'
    clear hr
    obtain ⟨s', l⟩ := t
    have ht0 := Lib.hid ht
    obtain ⟨rfl, a, c, rfl, hl⟩ := ht.open
    have hll : l.length ≤ 9223372036854775807 := by omega
    clear ht hl
    have hm := (Mut.refl (fun _ => False) w).alloc (.cells #[.int .i64 s, .slice a l.length c] 29)
    have hB := Lib.hid (BoxT.mk' w s (.slice a l.length c) 29)
    replace hm := Lib.hid hm
    replace ih := Lib.hid ih
    have hk0 := hB.out.c0
    have hk1 := hB.out.c1
    generalize hE : nodesE (d + 1) r (.node s l) = E
    replace hE := Lib.hid hE
    by_cases hs0 : s < 0
    · have hE6 : E = 6 := by rw [← hE.out, nodesE, if_pos (.inl hs0)]
      subst hE6
      go_enter Try.func72, Try.ntmps72
      go_wp2
      go_ret
      exact ⟨rfl, hm.out⟩
    by_cases hs1 : (r.length : Int) ≤ s
    · have hE6 : E = 6 := by rw [← hE.out, nodesE, if_pos (.inr hs1)]
      have hd0 : decide (s < 0) = false := by simp; omega
      subst hE6
      go_enter Try.func72, Try.ntmps72
      go_wp2
      go_ret
      exact ⟨rfl, hm.out⟩
    have hd0 : decide (s < 0) = false := by simp; omega
    have hd1 : decide ((r.length : Int) ≤ s) = false := by simp; omega
    obtain ⟨i0, rfl⟩ := Int.eq_ofNat_of_zero_le (show 0 ≤ s by omega)
    have hi0 : i0 < r.length := by omega
    obtain ⟨rb, ro, k, rfl, hk, hck⟩ := hr0.out.slot hm.out hi0
    have hgd : r.getD (i0 : Int).toNat 0 = k := by simp [List.getD, hk]
    replace hk := Lib.hid hk
    by_cases hlk : (l.length : Int) = k
    rotate_left
    · have hE3 : E = 3 := by rw [← hE.out, nodesE, if_neg (by omega), if_pos (by rw [hgd]; exact hlk)]
      have ht : ((l.length : Int) != k) = true := by simp; exact hlk
      subst hE3
      replace hlk := Lib.hid hlk
      replace hgd := Lib.hid hgd
      go_enter Try.func72, Try.ntmps72
      go_wp2
      go_quiet (fail)
      go_wp2
      go_ret
      exact ⟨rfl, hm.out.drewN _⟩
    have hE4 : E = (l.take l.length).foldl (fun e x => if e ≠ 0 then e else nodesE d r x) 0 := by rw [← hE.out, nodesE, if_neg (by omega), if_neg (by rw [hgd]; omega), List.take_length]
    have ht : ((l.length : Int) != k) = false := by simp; exact hlk
    replace hE4 := Lib.hid hE4
    replace hlk := Lib.hid hlk
    replace hgd := Lib.hid hgd
    clear hE
    go_enter Try.func72, Try.ntmps72
    go_wp2
    go_quiet (fail)
    go_wp2
    go_loopw [5] (fun i wr => ∃ j : Nat, j ≤ l.length ∧ i = .int .i64 j ∧ (l.take j).foldl (fun e x => if e ≠ 0 then e else nodesE d r x) 0 = 0 ∧ BoxT w.heap.size (i0 : Nat) (.slice a l.length c) wr ∧ Fix w wr) (fun i _ => l.length - (intOf i).toNat)
    case atStart => exact ⟨0, by omega, rfl, rfl, hB.out.fix ((Mut.refl (fun _ => False) _).drewN _), hm.out.drewN _⟩
    case round =>
      obtain ⟨j, hj, rfl, hz, hB1, hm1⟩ := hrel
      clear hB hk0 hk1 hm hck
      obtain ⟨k0, k1⟩ := hB1
      replace hz := Lib.hid hz
      by_cases hlt : j < l.length
      · obtain ⟨b, off, c', s1, v1, t1, hv, hx, q1, q2, h1⟩ := ht0.out.slot hm1 hlt
        simp only [Value.slice.injEq, true_and] at hv
        obtain ⟨rfl, rfl⟩ := hv
        obtain ⟨ra, rn, rc, rfl⟩ := h1.shape
        have hsn := Lib.hid (foldl_snoc (fun e x => if e ≠ 0 then e else nodesE d r x) 0 l j t1 hx)
        have hdr := Lib.hid (List.drop_eq_getElem_cons hlt)
        replace h1 := Lib.hid (h1.fix hm1)
        have hr1 := Lib.hid (hr0.out.fix hm1)
        replace hm1 := Lib.hid hm1
        have hget : l[j] = t1 := by rw [List.getElem?_eq_getElem hlt] at hx; exact Option.some.inj hx
        replace hget := Lib.hid hget
        clear hx
        go_wp2_with fail
        refine (ih.out s1 _ t1 _ (h1.out) (hr1.out)).mono ?_
        rintro e w2 ⟨rfl, hm2⟩
        skip
        have hB2 := Lib.hid ((BoxT.mk k0 k1).fix hm2)
        replace hm1 := Lib.hid (hm1.out.trans hm2)
        clear hm2
        generalize hy : nodesE d r t1 = y at *
        by_cases hy0 : y = 0
        · subst hy0
          replace hy := Lib.hid hy
          go_wp2
          go_roundw
          case rel => exact ⟨j + 1, by omega, by go_num, by rw [hsn.out, hz.out]; rfl, hB2.out, hm1.out⟩
          case measure => simp [intOf]; omega
        · have hty : ((y : Int) != 0) = true := by simp; exact hy0
          have hEy : E = y := by
            rw [hE4.out]
            exact nodes_at hy0 (by rw [hsn.out, hz.out]; rfl)
          subst hEy
          replace hy := Lib.hid hy
          replace hy0 := Lib.hid hy0
          go_wp2
          go_ret
          exact ⟨rfl, hm1.out⟩
      · obtain rfl : j = l.length := by omega
        have hE0 : E = 0 := by rw [hE4.out, hz.out]
        subst hE0
        replace hm1 := Lib.hid hm1
        go_wp2
        go_ret
        exact ⟨rfl, hm1.out⟩
end Go.Proofs.Ytdakoccbmeojhaa
