/- Contracts of Len, there, head, join, Union, Find, Connected. Condition: a partition in memory. -/
import Derived.Test.YtojfpobgncapjaaWa
set_option linter.unusedSimpArgs false
set_option linter.unusedVariables false
set_option maxHeartbeats 400000
namespace Go.Proofs.Ytojfpobgncapjaa
open Go Go.RowKit Go.PP

theorem some_nat_inj {a b : Nat} (h : some (a : Int) = some (b : Int)) : a = b := by
  have := Option.some.inj h; omega

theorem len_nil (w : World) : Calls Try.prog 37 #[.pointer none] w fun e w' => e = .returned (.int .i64 0) ∧ w = w' := by
  go_enter Try.func37, Try.ntmps37
  go_wp2
  go_ret
  exact ⟨rfl, rfl⟩

theorem len_any (w : World) (p u n : Nat) (R : List Int) (hP : Part w p u n R) : Calls Try.prog 37 #[.pointer (some ⟨p, 0, none⟩)] w fun e w' => e = .returned (.int .i64 n) ∧ w = w' := by
  obtain ⟨c, hp⟩ := hP.hp
  have hs := hP.small
  clear hP
  go_enter Try.func37, Try.ntmps37
  go_wp2
  go_ret
  exact ⟨rfl, rfl⟩

def thereB (n : Nat) (a : Int) : Bool := decide (0 ≤ a) && decide (a < n)

theorem there_nil (a : Int) (w : World) : Calls Try.prog 39 #[.pointer none, .int .i64 a] w fun e w' => e = .returned (.bool false) ∧ w = w' := by
  go_enter Try.func39, Try.ntmps39
  go_wp2
  go_ret
  exact ⟨rfl, rfl⟩

theorem there_any (a : Int) (w : World) (p u n : Nat) (R : List Int) (hP : Part w p u n R) :
    Calls Try.prog 39 #[.pointer (some ⟨p, 0, none⟩), .int .i64 a] w fun e w' => e = .returned (.bool (thereB n a)) ∧ w = w' := by
  obtain ⟨c, hp⟩ := hP.hp
  have hs := hP.small
  clear hP
  unfold thereB
  by_cases h0 : 0 ≤ a
  · go_enter Try.func39, Try.ntmps39
    go_wp2
    go_ret
    exact ⟨by simp [h0], rfl⟩
  · have h0' : decide (0 ≤ a) = false := by simp; omega
    rw [h0']
    go_enter Try.func39, Try.ntmps39
    go_wp2
    go_ret
    exact ⟨by simp, rfl⟩

def RepPost (w : World) (p u n : Nat) (R : List Int) (a : Nat) (e : Ending) (w' : World) : Prop :=
  ∃ r : Nat, e = .returned (.int .i64 r) ∧ R[a]? = some (r : Int) ∧ R[r]? = some (r : Int) ∧ r ≤ a ∧ Part w' p u n R ∧ Mut (· = u) w w'

theorem head_any (a : Nat) (w : World) (p u n : Nat) (R : List Int) (hP : Part w p u n R) (ha : a < n) :
    Calls Try.prog 40 #[.pointer (some ⟨p, 0, none⟩), .int .i64 a] w (RepPost w p u n R a) := by
  obtain ⟨r0, hr0, hr1, hr2⟩ := hP.rep ha
  have hu := hP.ult
  have hp := hP.plt
  replace hP := Lib.hid hP
  replace hr1 := Lib.hid hr1
  replace hr2 := Lib.hid hr2
  go_enter Try.func40, Try.ntmps40
  go_wp2_with fail
  have hM : Mut (· = u) w ((w.alloc (Obj.cells #[Value.pointer (some { block := p, off := 0 })] 23)).alloc (Obj.cells #[Value.func (Fn.func 49) #[] #[Value.pointer (some { block := w.heap.size, off := 0 }), Value.pointer (some { block := w.heap.size + 1, off := 0 })]] 34)) :=
    ((Mut.refl _ w).alloc _).alloc _
  refine (head1 (a + 1) a _ p u n _ _ R (by omega) ha (hP.out.mut (S := fun _ => False) (((Mut.refl _ w).alloc _).alloc _) (by simp) (by simp)) (by omega) (by omega) (by go_simp) (by go_simp)).mono ?_
  rintro e w1 ⟨r, rfl, hr, hra, hP1, hm, -, -⟩
  have hrr : R[r]? = some (r : Int) := by
    obtain ⟨r', _, h2, h3⟩ := hP1.rep ha
    rw [hr] at h2; rw [some_nat_inj h2]; rw [some_nat_inj h2] at hr; exact h3
  have H := Lib.hid (show RepPost w p u n R a (.returned (.int .i64 r)) w1 from ⟨r, rfl, hr, hrr, hra, hP1, hM.trans hm⟩)
  clear hr hP1 hm hrr hM
  go_wp2
  go_ret
  exact H.out

def JoinPost (w : World) (p u n : Nat) (R : List Int) (a b : Nat) (e : Ending) (w' : World) : Prop :=
  ∃ x y : Nat, R[a]? = some (x : Int) ∧ R[b]? = some (y : Int) ∧ e = .returned (.bool ((x : Int) != (y : Int))) ∧ Part w' p u n (merged R (max x y) (min x y)) ∧ Mut (· = u) w w'

theorem join_any (a b : Nat) (w : World) (p u n : Nat) (R : List Int) (hP : Part w p u n R) (ha : a < n) (hb : b < n) :
    Calls Try.prog 42 #[.pointer (some ⟨p, 0, none⟩), .int .i64 a, .int .i64 b] w (JoinPost w p u n R a b) := by
  have hs := hP.small
  have hne := hP.ne
  replace hP := Lib.hid hP
  go_enter Try.func42, Try.ntmps42
  go_wp2_with fail
  refine (head_any a _ p u n R hP.out ha).mono ?_
  rintro e w1 ⟨x, rfl, hx, hxx, hxa, hP1, hm1⟩
  replace hx := Lib.hid hx
  replace hxx := Lib.hid hxx
  replace hP1 := Lib.hid hP1
  go_wp2_with fail
  refine (head_any b _ p u n R hP1.out hb).mono ?_
  rintro e w2 ⟨y, rfl, hy, hyy, hyb, hP2, hm2⟩
  obtain ⟨c, hc⟩ := hP2.hp
  replace hy := Lib.hid hy
  replace hyy := Lib.hid hyy
  replace hP2 := Lib.hid hP2
  replace hm1 := Lib.hid (hm1.trans hm2)
  clear hm2
  rcases Nat.lt_trichotomy x y with hxy | hxy | hxy
  · obtain ⟨j, _, -, hj, hf, -⟩ := hP2.out.cellU (a := y) (by omega)
    have hlt : y < n := by omega
    have hJ := Lib.hid (hP2.out.join hyy.out hxx.out (Nat.le_of_lt hxy))
    have h1 := Lib.hid (Nat.max_eq_right (Nat.le_of_lt hxy))
    have h2 := Lib.hid (Nat.min_eq_left (Nat.le_of_lt hxy))
    go_wp2
    go_ret
    exact ⟨x, y, hx.out, hy.out, rfl, by rw [h1.out, h2.out]; exact hJ.out, hm1.out.setCell (p := ⟨u, y, none⟩) (fun _ => rfl) _⟩
  · subst hxy
    obtain ⟨j, _, -, hj, hf, -⟩ := hP2.out.cellU (a := x) (by omega)
    have hlt : x < n := by omega
    have hJ := Lib.hid (hP2.out.join hyy.out hxx.out (Nat.le_refl _))
    have h1 := Lib.hid (Nat.max_self x)
    have h2 := Lib.hid (Nat.min_self x)
    go_wp2
    go_ret
    exact ⟨x, x, hx.out, hy.out, by simp, by rw [h1.out, h2.out]; exact hJ.out, hm1.out.setCell (p := ⟨u, x, none⟩) (fun _ => rfl) _⟩
  · obtain ⟨j, _, -, hj, hf, -⟩ := hP2.out.cellU (a := x) (by omega)
    have hlt : x < n := by omega
    have hJ := Lib.hid (hP2.out.join hxx.out hyy.out (Nat.le_of_lt hxy))
    have h1 := Lib.hid (Nat.max_eq_left (Nat.le_of_lt hxy))
    have h2 := Lib.hid (Nat.min_eq_right (Nat.le_of_lt hxy))
    go_wp2
    go_ret
    exact ⟨x, y, hx.out, hy.out, rfl, by rw [h1.out, h2.out]; exact hJ.out, hm1.out.setCell (p := ⟨u, x, none⟩) (fun _ => rfl) _⟩

def UnionPost (w : World) (p u n : Nat) (R : List Int) (a b : Int) (e : Ending) (w' : World) : Prop :=
  (thereB n a && thereB n b) = true ∧ (∃ x y : Nat, R[a.toNat]? = some (x : Int) ∧ R[b.toNat]? = some (y : Int) ∧ e = .returned (.tuple #[.bool ((x : Int) != (y : Int)), .int .i64 0]) ∧ Part w' p u n (merged R (max x y) (min x y)) ∧ Mut (· = u) w w') ∨
  (thereB n a && thereB n b) = false ∧ e = .returned (.tuple #[.bool false, .int .i64 1]) ∧ w = w'

theorem thereB_true {n : Nat} {a : Int} (h : thereB n a = true) : ∃ k : Nat, a = k ∧ k < n := by
  simp [thereB] at h
  exact ⟨a.toNat, by omega, by omega⟩

theorem union_nil (a b : Int) (w : World) : Calls Try.prog 21 #[.pointer none, .int .i64 a, .int .i64 b] w fun e w' => e = .returned (.tuple #[.bool false, .int .i64 1]) ∧ w = w' := by
  go_enter Try.func21, Try.ntmps21
  go_wp2_with fail
  refine (there_nil _ _).mono ?_
  rintro e w1 ⟨rfl, rfl⟩
  go_wp2
  go_ret2
  exact ⟨rfl, rfl⟩

theorem union_any (a b : Int) (w : World) (p u n : Nat) (R : List Int) (hP : Part w p u n R) :
    Calls Try.prog 21 #[.pointer (some ⟨p, 0, none⟩), .int .i64 a, .int .i64 b] w (UnionPost w p u n R a b) := by
  cases ha : thereB n a with
  | false =>
    have ha' := Lib.hid ha
    clear ha
    go_enter Try.func21, Try.ntmps21
    go_wp2_with fail
    refine (there_any _ _ p u n R hP).mono ?_
    rw [ha'.out]
    rintro e w1 ⟨rfl, rfl⟩
    go_wp2
    go_ret2
    exact .inr ⟨by simp [ha'.out], rfl, rfl⟩
  | true =>
    cases hb : thereB n b with
    | false =>
      have ha' := Lib.hid ha
      have hb' := Lib.hid hb
      clear ha hb
      go_enter Try.func21, Try.ntmps21
      go_wp2_with fail
      refine (there_any _ _ p u n R hP).mono ?_
      rw [ha'.out]
      rintro e w1 ⟨rfl, rfl⟩
      go_wp2_with fail
      refine (there_any _ _ p u n R hP).mono ?_
      rw [hb'.out]
      rintro e w1 ⟨rfl, rfl⟩
      go_wp2
      go_ret2
      exact .inr ⟨by simp [hb'.out], rfl, rfl⟩
    | true =>
      obtain ⟨k, rfl, hk⟩ := thereB_true ha
      obtain ⟨l, rfl, hl⟩ := thereB_true hb
      have ha' := Lib.hid ha
      have hb' := Lib.hid hb
      clear ha hb
      go_enter Try.func21, Try.ntmps21
      go_wp2_with fail
      refine (there_any _ _ p u n R hP).mono ?_
      rw [ha'.out]
      rintro e w1 ⟨rfl, rfl⟩
      go_wp2_with fail
      refine (there_any _ _ p u n R hP).mono ?_
      rw [hb'.out]
      rintro e w1 ⟨rfl, rfl⟩
      go_wp2_with fail
      refine (join_any k l _ p u n R hP hk hl).mono ?_
      rintro e w1 ⟨x, y, hx, hy, rfl, hP1, hm⟩
      have H := Lib.hid (show UnionPost w p u n R k l (.returned (.tuple #[.bool ((x : Int) != (y : Int)), .int .i64 0])) w1 from
        .inl ⟨by simp [ha'.out, hb'.out], x, y, hx, hy, rfl, hP1, hm⟩)
      clear hx hy hP1 hm
      go_wp2
      go_ret2
      exact H.out

def FindPost (w : World) (p u n : Nat) (R : List Int) (a : Int) (e : Ending) (w' : World) : Prop :=
  thereB n a = true ∧ (∃ r : Nat, R[a.toNat]? = some (r : Int) ∧ e = .returned (.tuple #[.int .i64 r, .int .i64 0]) ∧ Part w' p u n R ∧ Mut (· = u) w w') ∨
  thereB n a = false ∧ e = .returned (.tuple #[.int .i64 0, .int .i64 1]) ∧ w = w'

theorem find_nil (a : Int) (w : World) : Calls Try.prog 14 #[.pointer none, .int .i64 a] w fun e w' => e = .returned (.tuple #[.int .i64 0, .int .i64 1]) ∧ w = w' := by
  go_enter Try.func14, Try.ntmps14
  go_wp2_with fail
  refine (there_nil _ _).mono ?_
  rintro e w1 ⟨rfl, rfl⟩
  go_wp2
  go_ret2
  exact ⟨rfl, rfl⟩

theorem find_any (a : Int) (w : World) (p u n : Nat) (R : List Int) (hP : Part w p u n R) :
    Calls Try.prog 14 #[.pointer (some ⟨p, 0, none⟩), .int .i64 a] w (FindPost w p u n R a) := by
  cases ha : thereB n a with
  | false =>
    have ha' := Lib.hid ha
    clear ha
    go_enter Try.func14, Try.ntmps14
    go_wp2_with fail
    refine (there_any _ _ p u n R hP).mono ?_
    rw [ha'.out]
    rintro e w1 ⟨rfl, rfl⟩
    go_wp2
    go_ret2
    exact .inr ⟨ha'.out, rfl, rfl⟩
  | true =>
    obtain ⟨k, rfl, hk⟩ := thereB_true ha
    have ha' := Lib.hid ha
    clear ha
    go_enter Try.func14, Try.ntmps14
    go_wp2_with fail
    refine (there_any _ _ p u n R hP).mono ?_
    rw [ha'.out]
    rintro e w1 ⟨rfl, rfl⟩
    go_wp2_with fail
    refine (head_any k _ p u n R hP hk).mono ?_
    rintro e w1 ⟨r, rfl, hr, hrr, hra, hP1, hm⟩
    have H := Lib.hid (show FindPost w p u n R k (.returned (.tuple #[.int .i64 r, .int .i64 0])) w1 from
        .inl ⟨ha'.out, r, hr, rfl, hP1, hm⟩)
    clear hr hP1 hm hrr
    go_wp2
    go_ret2
    exact H.out

/-- Are two numbers elements of one block? -/
def connB (R : List Int) (n : Nat) (a b : Int) : Bool := thereB n a && thereB n b && (R.getD a.toNat 0 == R.getD b.toNat 0)

def ConnPost (w : World) (p u n : Nat) (R : List Int) (a b : Int) (e : Ending) (w' : World) : Prop :=
  e = .returned (.bool (connB R n a b)) ∧ Part w' p u n R ∧ Mut (· = u) w w'

theorem conn_nil (a b : Int) (w : World) : Calls Try.prog 15 #[.pointer none, .int .i64 a, .int .i64 b] w fun e w' => e = .returned (.bool false) ∧ w = w' := by
  go_enter Try.func15, Try.ntmps15
  go_wp2_with fail
  refine (there_nil _ _).mono ?_
  rintro e w1 ⟨rfl, rfl⟩
  go_wp2
  go_ret
  exact ⟨rfl, rfl⟩

theorem conn_any (a b : Int) (w : World) (p u n : Nat) (R : List Int) (hP : Part w p u n R) :
    Calls Try.prog 15 #[.pointer (some ⟨p, 0, none⟩), .int .i64 a, .int .i64 b] w (ConnPost w p u n R a b) := by
  cases ha : thereB n a with
  | false =>
    have H := Lib.hid (show ConnPost w p u n R a b (.returned (.bool false)) w from ⟨by simp [connB, ha], hP, Mut.refl _ _⟩)
    have ha' := Lib.hid ha
    clear ha
    go_enter Try.func15, Try.ntmps15
    go_wp2_with fail
    refine (there_any _ _ p u n R hP).mono ?_
    rw [ha'.out]
    rintro e w1 ⟨rfl, rfl⟩
    go_wp2
    go_ret
    exact H.out
  | true =>
    cases hb : thereB n b with
    | false =>
      have H := Lib.hid (show ConnPost w p u n R a b (.returned (.bool false)) w from ⟨by simp [connB, hb], hP, Mut.refl _ _⟩)
      have ha' := Lib.hid ha
      have hb' := Lib.hid hb
      clear ha hb
      go_enter Try.func15, Try.ntmps15
      go_wp2_with fail
      refine (there_any _ _ p u n R hP).mono ?_
      rw [ha'.out]
      rintro e w1 ⟨rfl, rfl⟩
      go_wp2_with fail
      refine (there_any _ _ p u n R hP).mono ?_
      rw [hb'.out]
      rintro e w1 ⟨rfl, rfl⟩
      go_wp2
      go_ret
      exact H.out
    | true =>
      obtain ⟨k, rfl, hk⟩ := thereB_true ha
      obtain ⟨l, rfl, hl⟩ := thereB_true hb
      have ha' := Lib.hid ha
      have hb' := Lib.hid hb
      clear ha hb
      go_enter Try.func15, Try.ntmps15
      go_wp2_with fail
      refine (there_any _ _ p u n R hP).mono ?_
      rw [ha'.out]
      rintro e w1 ⟨rfl, rfl⟩
      go_wp2_with fail
      refine (there_any _ _ p u n R hP).mono ?_
      rw [hb'.out]
      rintro e w1 ⟨rfl, rfl⟩
      go_wp2_with fail
      refine (head_any k _ p u n R hP hk).mono ?_
      rintro e w1 ⟨x, rfl, hx, -, -, hP1, hm1⟩
      replace hx := Lib.hid hx
      replace hP1 := Lib.hid hP1
      go_wp2_with fail
      refine (head_any l _ p u n R hP1.out hl).mono ?_
      rintro e w2 ⟨y, rfl, hy, -, -, hP2, hm2⟩
      have H := Lib.hid (show ConnPost w p u n R k l (.returned (.bool ((x : Int) == (y : Int)))) w2 from
        ⟨by simp [connB, ha'.out, hb'.out, List.getD, hx.out, hy], hP2, hm1.trans hm2⟩)
      clear hy hP1 hm1 hm2 hP2
      go_wp2
      go_ret
      exact H.out
end Go.Proofs.Ytojfpobgncapjaa
