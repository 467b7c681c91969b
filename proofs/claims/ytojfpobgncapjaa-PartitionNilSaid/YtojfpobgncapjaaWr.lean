/- Contracts of Refines and Equal. Condition: two partitions in memory, apart from one another. -/
import Derived.Test.YtojfpobgncapjaaWq
set_option linter.unusedSimpArgs false
set_option linter.unusedVariables false
set_option maxHeartbeats 400000
namespace Go.Proofs.Ytojfpobgncapjaa
open Go Go.RowKit Go.PP

/-- Every block of R lies in one of V. -/
def refB (n : Nat) (R V : List Int) : Bool := decide (∀ i : Nat, i < n → V.getD i 0 = V.getD (R.getD i 0).toNat 0)

def Two (u v : Nat) (b : Nat) : Prop := b = u ∨ b = v

structure Apart (p u q v : Nat) : Prop where
  a : p ≠ v
  b : q ≠ u
  c : u ≠ v
theorem Apart.symm {p u q v : Nat} (h : Apart p u q v) : Apart q v p u := ⟨h.b, h.a, h.c.symm⟩

/-- Both partitions are there; only their parents may have been written. -/
structure Both (w0 : World) (p u n : Nat) (R : List Int) (q v m : Nat) (V : List Int) (w : World) : Prop where
  l : Part w p u n R
  r : Part w q v m V
  mu : Mut (Two u v) w0 w

theorem Both.left {w0 w w' : World} {p u n : Nat} {R : List Int} {q v m : Nat} {V : List Int} (h : Both w0 p u n R q v m V w) (ha : Apart p u q v) (hP : Part w' p u n R) (hm : Mut (· = u) w w') : Both w0 p u n R q v m V w' :=
  ⟨hP, h.r.mut hm ha.b (fun e => ha.c e.symm), h.mu.trans (hm.mono fun _ _ e => .inl e)⟩
theorem Both.right {w0 w w' : World} {p u n : Nat} {R : List Int} {q v m : Nat} {V : List Int} (h : Both w0 p u n R q v m V w) (ha : Apart p u q v) (hQ : Part w' q v m V) (hm : Mut (· = v) w w') : Both w0 p u n R q v m V w' :=
  ⟨h.l.mut hm ha.a ha.c, hQ, h.mu.trans (hm.mono fun _ _ e => .inr e)⟩
theorem Both.refl {w : World} {p u n : Nat} {R : List Int} {q v m : Nat} {V : List Int} (hP : Part w p u n R) (hQ : Part w q v m V) : Both w p u n R q v m V w := ⟨hP, hQ, Mut.refl _ _⟩
theorem Two.symm {u v b : Nat} (h : Two u v b) : Two v u b := Or.symm h

def BothPost (w : World) (p u n : Nat) (R : List Int) (q v m : Nat) (V : List Int) (r : Bool) (e : Ending) (w' : World) : Prop :=
  e = .returned (.bool r) ∧ Both w p u n R q v m V w'

theorem refines_nilL (o : Value) (w : World) : Calls Try.prog 27 #[.pointer none, o] w fun e w' => e = .returned (.bool false) ∧ w = w' := by
  go_enter Try.func27, Try.ntmps27
  go_wp2_with fail
  refine (like_nilL o w).mono ?_
  rintro e w1 ⟨rfl, rfl⟩
  go_wp2
  go_ret
  exact ⟨rfl, rfl⟩

theorem refines_nilR (p : Nat) (w : World) : Calls Try.prog 27 #[.pointer (some ⟨p, 0, none⟩), .pointer none] w fun e w' => e = .returned (.bool false) ∧ w = w' := by
  go_enter Try.func27, Try.ntmps27
  go_wp2_with fail
  refine (like_nilR p w).mono ?_
  rintro e w1 ⟨rfl, rfl⟩
  go_wp2
  go_ret
  exact ⟨rfl, rfl⟩

theorem refines_ne (w : World) (p u n : Nat) (R : List Int) (q v m : Nat) (V : List Int) (hP : Part w p u n R) (hQ : Part w q v m V) (h : n ≠ m) :
    Calls Try.prog 27 #[.pointer (some ⟨p, 0, none⟩), .pointer (some ⟨q, 0, none⟩)] w fun e w' => e = .returned (.bool false) ∧ w = w' := by
  have hb : ((n : Int) == (m : Int)) = false := by simp; omega
  replace hP := Lib.hid hP
  replace hQ := Lib.hid hQ
  replace hb := Lib.hid hb
  clear h
  go_enter Try.func27, Try.ntmps27
  go_wp2_with fail
  refine (like_any w p u n R q v m V hP.out hQ.out).mono ?_
  rw [hb.out]
  rintro e w1 ⟨rfl, rfl⟩
  go_wp2
  go_ret
  exact ⟨rfl, rfl⟩

set_option maxRecDepth 8000 in
set_option maxHeartbeats 4000000 in
theorem refines_any (w : World) (p u n : Nat) (R : List Int) (q v : Nat) (V : List Int) (hP : Part w p u n R) (hQ : Part w q v n V) (ha : Apart p u q v) :
    Calls Try.prog 27 #[.pointer (some ⟨p, 0, none⟩), .pointer (some ⟨q, 0, none⟩)] w (BothPost w p u n R q v n V (refB n R V)) := by
  have hb : ((n : Int) == (n : Int)) = true := by simp
  have hlR := Lib.hid hP.len
  have hlV := Lib.hid hQ.len
  have hn := hP.small
  replace hP := Lib.hid hP
  replace hQ := Lib.hid hQ
  replace hb := Lib.hid hb
  replace ha := Lib.hid ha
  generalize hd : refB n R V = d
  replace hd := Lib.hid hd
  go_enter Try.func27, Try.ntmps27
  go_wp2_with fail
  refine (like_any w p u n R q v n V hP.out hQ.out).mono ?_
  rw [hb.out]
  rintro e w1 ⟨rfl, rfl⟩
  go_wp2_with fail
  refine (len_any w p u n R hP.out).mono ?_
  rintro e w1 ⟨rfl, rfl⟩
  go_wp2
  go_loopw [12] (fun i wr => ∃ k : Nat, k ≤ n ∧ i = .int .i64 k ∧ (∀ i : Nat, i < k → V.getD i 0 = V.getD (R.getD i 0).toNat 0) ∧ Both w p u n R q v n V wr) (fun i _ => n - (intOf i).toNat)
  case atStart => exact ⟨0, by omega, rfl, by omega, Both.refl hP.out hQ.out⟩
  case round =>
    obtain ⟨k, hk, rfl, hall, hB⟩ := hrel
    clear hP hQ
    replace hall := Lib.hid hall
    replace hB := Lib.hid hB
    by_cases hlt : k < n
    · go_wp2_with fail
      refine (head_any k _ q v n V hB.out.r hlt).mono ?_
      rintro e w2 ⟨y, rfl, hy, -, -, hQ2, hm2⟩
      have hB2 := Lib.hid (hB.out.right ha.out hQ2 hm2)
      replace hy := Lib.hid hy
      clear hB hQ2 hm2
      go_wp2_with fail
      refine (head_any k _ p u n R hB2.out.l hlt).mono ?_
      rintro e w3 ⟨r, rfl, hr, hrr, hrk, hP3, hm3⟩
      have hB3 := Lib.hid (hB2.out.left ha.out hP3 hm3)
      replace hr := Lib.hid hr
      clear hB2 hP3 hm3 hrr
      go_wp2_with fail
      refine (head_any r _ q v n V hB3.out.r (by omega)).mono ?_
      rintro e w4 ⟨z, rfl, hz, -, -, hQ4, hm4⟩
      have hB4 := Lib.hid (hB3.out.right ha.out hQ4 hm4)
      replace hz := Lib.hid hz
      clear hB3 hQ4 hm4
      have hval : (V.getD k 0 = V.getD (R.getD k 0).toNat 0) ↔ y = z := by
        simp only [List.getD, hy.out, hr.out, Option.getD_some, Int.toNat_natCast, hz.out]
        omega
      replace hval := Lib.hid hval
      by_cases hyz : y = z
      · subst hyz
        have ht : ((y : Int) != (y : Int)) = false := by simp
        go_wp2
        go_roundw
        case rel => exact ⟨k + 1, by omega, by go_num, fun i hi => by
          rcases Nat.lt_or_ge i k with h | h
          · exact hall.out i h
          · obtain rfl : i = k := by omega
            exact hval.out.2 trivial, hB4.out⟩
        case measure => simp [intOf]; omega
      · have ht : ((y : Int) != (z : Int)) = true := by simp; omega
        have hdf : d = false := by
          rw [← hd.out]
          unfold refB
          rw [decide_eq_false_iff_not]
          intro h
          exact hyz (hval.out.1 (h k hlt))
        subst hdf
        clear hyz
        go_wp2
        go_ret
        exact ⟨rfl, hB4.out⟩
    · have hdt : d = true := by
        rw [← hd.out]
        unfold refB
        rw [decide_eq_true_eq]
        intro i hi
        exact hall.out i (by omega)
      subst hdt
      go_wp2
      go_ret
      exact ⟨rfl, hB.out⟩

theorem equal_nn (w : World) : Calls Try.prog 23 #[.pointer none, .pointer none] w fun e w' => e = .returned (.bool true) ∧ w = w' := by
  go_enter Try.func23, Try.ntmps23
  go_wp2
  go_ret
  exact ⟨rfl, rfl⟩
theorem equal_np (q : Nat) (w : World) : Calls Try.prog 23 #[.pointer none, .pointer (some ⟨q, 0, none⟩)] w fun e w' => e = .returned (.bool false) ∧ w = w' := by
  go_enter Try.func23, Try.ntmps23
  go_wp2
  go_ret
  exact ⟨rfl, rfl⟩
theorem equal_pn (p : Nat) (w : World) : Calls Try.prog 23 #[.pointer (some ⟨p, 0, none⟩), .pointer none] w fun e w' => e = .returned (.bool false) ∧ w = w' := by
  go_enter Try.func23, Try.ntmps23
  go_wp2
  go_ret
  exact ⟨rfl, rfl⟩

theorem equal_any (w : World) (p u n : Nat) (R : List Int) (q v : Nat) (V : List Int) (hP : Part w p u n R) (hQ : Part w q v n V) (ha : Apart p u q v) :
    Calls Try.prog 23 #[.pointer (some ⟨p, 0, none⟩), .pointer (some ⟨q, 0, none⟩)] w (BothPost w p u n R q v n V (refB n R V && refB n V R)) := by
  replace hP := Lib.hid hP
  replace hQ := Lib.hid hQ
  replace ha := Lib.hid ha
  cases hd : refB n R V with
  | false =>
    replace hd := Lib.hid hd
    go_enter Try.func23, Try.ntmps23
    go_wp2_with fail
    refine (refines_any w p u n R q v V hP.out hQ.out ha.out).mono ?_
    rw [hd.out]
    rintro e w1 ⟨rfl, hB⟩
    replace hB := Lib.hid hB
    go_wp2
    go_ret
    exact ⟨rfl, hB.out⟩
  | true =>
    generalize hd2 : refB n V R = d
    replace hd := Lib.hid hd
    replace hd2 := Lib.hid hd2
    go_enter Try.func23, Try.ntmps23
    go_wp2_with fail
    refine (refines_any w p u n R q v V hP.out hQ.out ha.out).mono ?_
    rw [hd.out]
    rintro e w1 ⟨rfl, hB⟩
    replace hB := Lib.hid hB
    clear hP hQ
    go_wp2_with fail
    refine (refines_any w1 q v n V p u R hB.out.r hB.out.l ha.out.symm).mono ?_
    rw [hd2.out]
    rintro e w2 ⟨rfl, hB2⟩
    have H := Lib.hid (show Both w p u n R q v n V w2 from ⟨hB2.r, hB2.l, hB.out.mu.trans (hB2.mu.mono fun _ _ e => e.symm)⟩)
    clear hB hB2
    go_wp2
    go_ret
    exact ⟨rfl, H.out⟩
end Go.Proofs.Ytojfpobgncapjaa
