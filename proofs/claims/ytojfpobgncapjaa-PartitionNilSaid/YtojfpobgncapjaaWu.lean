/- Contracts of Meet and Join and of the reference's Meet, Split and Over. Condition: two partitions in memory, apart from one another; two lists. -/
import Derived.Test.YtojfpobgncapjaaWt
import Derived.Test.YtojfpobgncapjaaLa
set_option linter.unusedSimpArgs false
set_option linter.unusedVariables false
set_option maxHeartbeats 400000
namespace Go.Proofs.Ytojfpobgncapjaa
open Go Go.RowKit Go.PP

theorem Both.keep {w0 w w' : World} {p u n : Nat} {R : List Int} {q v m : Nat} {V : List Int} (h : Both w0 p u n R q v m V w) {S : Nat → Prop} (hm : Mut S w w') (h1 : ¬ S p) (h2 : ¬ S u) (h3 : ¬ S q) (h4 : ¬ S v)
    (hs : ∀ i, i < w0.heap.size → S i → Two u v i) : Both w0 p u n R q v m V w' :=
  ⟨h.l.mut hm h1 h2, h.r.mut hm h3 h4, h.mu.trans' hm hs⟩

theorem meet_nilL (o : Value) (w : World) : Calls Try.prog 25 #[.pointer none, o] w fun e w' => e = .returned (.tuple #[.pointer none, .int .i64 1]) ∧ w = w' := by
  go_enter Try.func25, Try.ntmps25
  go_wp2_with fail
  refine (like_nilL o w).mono ?_
  rintro e w1 ⟨rfl, rfl⟩
  go_wp2
  go_ret2
  exact ⟨rfl, rfl⟩
theorem meet_nilR (p : Nat) (w : World) : Calls Try.prog 25 #[.pointer (some ⟨p, 0, none⟩), .pointer none] w fun e w' => e = .returned (.tuple #[.pointer none, .int .i64 1]) ∧ w = w' := by
  go_enter Try.func25, Try.ntmps25
  go_wp2_with fail
  refine (like_nilR p w).mono ?_
  rintro e w1 ⟨rfl, rfl⟩
  go_wp2
  go_ret2
  exact ⟨rfl, rfl⟩
theorem meet_ne (w : World) (p u n : Nat) (R : List Int) (q v m : Nat) (V : List Int) (hP : Part w p u n R) (hQ : Part w q v m V) (h : n ≠ m) :
    Calls Try.prog 25 #[.pointer (some ⟨p, 0, none⟩), .pointer (some ⟨q, 0, none⟩)] w fun e w' => e = .returned (.tuple #[.pointer none, .int .i64 1]) ∧ w = w' := by
  have hb : ((n : Int) == (m : Int)) = false := by simp; omega
  replace hP := Lib.hid hP
  replace hQ := Lib.hid hQ
  replace hb := Lib.hid hb
  clear h
  go_enter Try.func25, Try.ntmps25
  go_wp2_with fail
  refine (like_any w p u n R q v m V hP.out hQ.out).mono ?_
  rw [hb.out]
  rintro e w1 ⟨rfl, rfl⟩
  go_wp2
  go_ret2
  exact ⟨rfl, rfl⟩

def MeetPost (w : World) (p u n : Nat) (R : List Int) (o s : Nat) (V : List Int) (e : Ending) (w' : World) : Prop :=
  ∃ (q v : Nat) (out : List Int), e = .returned (.tuple #[.pointer (some ⟨q, 0, none⟩), .int .i64 0]) ∧ w.heap.size ≤ q ∧ w.heap.size ≤ v ∧ Part w' q v n out ∧ IsBy R V n out ∧ Both w p u n R o s n V w'

theorem meet_any (w : World) (p u n : Nat) (R : List Int) (o s : Nat) (V : List Int) (hP : Part w p u n R) (hQ : Part w o s n V) (hA : Apart p u o s) :
    Calls Try.prog 25 #[.pointer (some ⟨p, 0, none⟩), .pointer (some ⟨o, 0, none⟩)] w (MeetPost w p u n R o s V) := by
  have hb : ((n : Int) == (n : Int)) = true := by simp
  replace hP := Lib.hid hP
  replace hQ := Lib.hid hQ
  replace hA := Lib.hid hA
  replace hb := Lib.hid hb
  go_enter Try.func25, Try.ntmps25
  go_wp2_with fail
  refine (like_any w p u n R o s n V hP.out hQ.out).mono ?_
  rw [hb.out]
  rintro e w1 ⟨rfl, rfl⟩
  go_wp2_with fail
  refine (keepM_any w p u n R o s V hP.out hQ.out hA.out).mono ?_
  rintro e w1 ⟨q, v, out, rfl, h1, h2, h3, h4, h5⟩
  have H := Lib.hid (show MeetPost w p u n R o s V (.returned (.tuple #[.pointer (some ⟨q, 0, none⟩), .int .i64 0])) w1 from ⟨q, v, out, rfl, h1, h2, h3, h4, h5⟩)
  clear h1 h2 h3 h4 h5 hP hQ
  go_wp2
  go_ret2
  exact H.out

theorem rmeet_any (M : Nat → Prop) (va vb : Value) (A B : List Int) (w : World) (ha : Ints M w va A) (hb : Ints M w vb B) (hM : ∀ b, M b → b < w.heap.size) (hn : A.length ≤ 4096) (hl : A.length = B.length) :
    Calls Try.prog 34 #[va, vb] w (ByPost M w A B) := by
  have h := Lib.hid (rby_any M va vb A B w ha hb hM hn hl)
  obtain ⟨a, c, rfl, -, -⟩ := ha.open
  obtain ⟨a', c', rfl, -, -⟩ := hb.open
  clear ha hb hM hn hl
  go_enter Try.func34, Try.ntmps34
  go_wp2_with fail
  refine h.out.mono ?_
  rintro e w1 ⟨v, out, rfl, h1, h2⟩
  have H := Lib.hid (show ByPost M w A B (.returned v) w1 from ⟨v, out, rfl, h1, h2⟩)
  obtain ⟨a, c, rfl, -, -⟩ := h1.open
  clear h1 h2 h
  go_wp2
  go_ret
  exact H.out

theorem rsplit_any (M : Nat → Prop) (va vb : Value) (A B : List Int) (w : World) (ha : Ints M w va A) (hb : Ints M w vb B) (hM : ∀ b, M b → b < w.heap.size) (hn : A.length ≤ 4096) (hl : A.length = B.length) :
    Calls Try.prog 30 #[va, vb] w (ByPost M w A B) := by
  have h := Lib.hid (rby_any M va vb A B w ha hb hM hn hl)
  obtain ⟨a, c, rfl, -, -⟩ := ha.open
  obtain ⟨a', c', rfl, -, -⟩ := hb.open
  clear ha hb hM hn hl
  go_enter Try.func30, Try.ntmps30
  go_wp2_with fail
  refine h.out.mono ?_
  rintro e w1 ⟨v, out, rfl, h1, h2⟩
  have H := Lib.hid (show ByPost M w A B (.returned v) w1 from ⟨v, out, rfl, h1, h2⟩)
  obtain ⟨a, c, rfl, -, -⟩ := h1.open
  clear h1 h2 h
  go_wp2
  go_ret
  exact H.out

/-! ### Join -/
/-- R, and each of the first k elements joined with its representative in V. -/
def overTo (n : Nat) (R V : List Int) : Nat → List Int
  | 0 => R
  | k + 1 => stepPair n (overTo n R V k) k (V.getD k 0)

theorem GoodR.over {n : Nat} {R : List Int} (h : GoodR n R) (V : List Int) : ∀ k, GoodR n (overTo n R V k)
  | 0 => h
  | k + 1 => (GoodR.over h V k).step _ _

theorem overTo_succ {n : Nat} {R V : List Int} (h : GoodR n R) (hV : GoodR n V) {k : Nat} (hk : k < n) {r x y : Nat} (hr : V[k]? = some (r : Int)) (hx : (overTo n R V k)[k]? = some (x : Int)) (hy : (overTo n R V k)[r]? = some (y : Int)) :
    overTo n R V (k + 1) = merged (overTo n R V k) (max x y) (min x y) := by
  obtain ⟨r', h1, h2, _⟩ := hV.rep k hk
  rw [hr] at h2
  have e : r = r' := some_nat_inj h2
  have t1 : thereB n (k : Int) = true := by simp [thereB, hk]
  have t2 : thereB n (r : Int) = true := by simp [thereB]; omega
  simp [overTo, stepPair, List.getD, hr, t1, t2, hx, hy]

theorem joinp_nilL (o : Value) (w : World) : Calls Try.prog 26 #[.pointer none, o] w fun e w' => e = .returned (.tuple #[.pointer none, .int .i64 1]) ∧ w = w' := by
  go_enter Try.func26, Try.ntmps26
  go_wp2_with fail
  refine (like_nilL o w).mono ?_
  rintro e w1 ⟨rfl, rfl⟩
  go_wp2
  go_ret2
  exact ⟨rfl, rfl⟩
theorem joinp_ne (w : World) (p u n : Nat) (R : List Int) (q v m : Nat) (V : List Int) (hP : Part w p u n R) (hQ : Part w q v m V) (h : n ≠ m) :
    Calls Try.prog 26 #[.pointer (some ⟨p, 0, none⟩), .pointer (some ⟨q, 0, none⟩)] w fun e w' => e = .returned (.tuple #[.pointer none, .int .i64 1]) ∧ w = w' := by
  have hb : ((n : Int) == (m : Int)) = false := by simp; omega
  replace hP := Lib.hid hP
  replace hQ := Lib.hid hQ
  replace hb := Lib.hid hb
  clear h
  go_enter Try.func26, Try.ntmps26
  go_wp2_with fail
  refine (like_any w p u n R q v m V hP.out hQ.out).mono ?_
  rw [hb.out]
  rintro e w1 ⟨rfl, rfl⟩
  go_wp2
  go_ret2
  exact ⟨rfl, rfl⟩

def JoinPPost (w : World) (p u n : Nat) (R : List Int) (o s : Nat) (V : List Int) (e : Ending) (w' : World) : Prop :=
  ∃ (q v : Nat), e = .returned (.tuple #[.pointer (some ⟨q, 0, none⟩), .int .i64 0]) ∧ w.heap.size ≤ q ∧ w.heap.size ≤ v ∧ Part w' q v n (overTo n R V n) ∧ Both w p u n R o s n V w'

set_option maxRecDepth 8000 in
set_option maxHeartbeats 4000000 in
theorem joinp_any (w : World) (p u n : Nat) (R : List Int) (o s : Nat) (V : List Int) (hP : Part w p u n R) (hQ : Part w o s n V) (hA : Apart p u o s) :
    Calls Try.prog 26 #[.pointer (some ⟨p, 0, none⟩), .pointer (some ⟨o, 0, none⟩)] w (JoinPPost w p u n R o s V) := by
  have hb : ((n : Int) == (n : Int)) = true := by simp
  have hgR := Lib.hid hP.good
  have hgV := Lib.hid hQ.good
  have hn := hP.small
  have l1 := hP.plt
  have l2 := hP.ult
  have l3 := hQ.plt
  have l4 := hQ.ult
  replace hP := Lib.hid hP
  replace hQ := Lib.hid hQ
  replace hA := Lib.hid hA
  replace hb := Lib.hid hb
  go_enter Try.func26, Try.ntmps26
  go_wp2_with fail
  refine (like_any w p u n R o s n V hP.out hQ.out).mono ?_
  rw [hb.out]
  rintro e w1 ⟨rfl, rfl⟩
  go_wp2_with fail
  refine (clone_any w p u n R hP.out).mono ?_
  rintro e w1 ⟨q, v, rfl, hq, hv, hN, hP1, hm1⟩
  have hQ1 := hQ.out.mut hm1 (by simp) (by simp)
  have hB := Lib.hid (show Both w p u n R o s n V w1 from ⟨hP1, hQ1, hm1.mono fun _ _ e => e.elim⟩)
  have hN0 := Lib.hid (show Part w1 q v n (overTo n R V 0) from hN)
  clear hP hQ hP1 hQ1 hm1 hN
  go_wp2_with fail
  refine (len_any _ o s n V hB.out.r).mono ?_
  rintro e w2 ⟨rfl, rfl⟩
  go_wp2
  go_loopw [16] (fun i wr => ∃ k : Nat, k ≤ n ∧ i = .int .i64 k ∧ Part wr q v n (overTo n R V k) ∧ Both w p u n R o s n V wr) (fun i _ => n - (intOf i).toNat)
  case atStart => exact ⟨0, by omega, rfl, hN0.out, hB.out⟩
  case round =>
    obtain ⟨k, hk, rfl, hN, hBx⟩ := hrel
    clear hB hN0
    replace hN := Lib.hid hN
    replace hB := Lib.hid hBx
    clear hBx
    by_cases hlt : k < n
    · go_wp2_with fail
      refine (head_any k _ o s n V hB.out.r hlt).mono ?_
      rintro e w3 ⟨r, rfl, hr, -, hrk, hQ3, hm3⟩
      have hB3 := Lib.hid (hB.out.right hA.out hQ3 hm3)
      have hN3 := Lib.hid (hN.out.mut hm3 (by omega) (by omega))
      replace hr := Lib.hid hr
      clear hB hN hQ3 hm3
      go_wp2_with fail
      refine (join_any k r _ q v n _ hN3.out hlt (by omega)).mono ?_
      rintro e w4 ⟨x, y, hx, hy, rfl, hN4, hm4⟩
      rw [← overTo_succ hgR.out hgV.out hlt hr.out hx hy] at hN4
      have hB4 := Lib.hid (hB3.out.keep hm4 (by omega) (by omega) (by omega) (by omega) (fun i hi e => by omega))
      replace hN4 := Lib.hid hN4
      clear hB3 hN3 hm4 hx hy hr
      generalize ((x : Int) != (y : Int)) = bq
      go_wp2
      go_roundw
      case rel => exact ⟨k + 1, by omega, by go_num, hN4.out, hB4.out⟩
      case measure => simp [intOf]; omega
    · obtain rfl : k = n := by omega
      have H := Lib.hid (show JoinPPost w p u k R o s V (.returned (.tuple #[.pointer (some ⟨q, 0, none⟩), .int .i64 0])) wr from ⟨q, v, rfl, hq, hv, hN.out, hB.out⟩)
      clear hN hB
      go_wp2
      go_ret2
      exact H.out

set_option maxRecDepth 8000 in
set_option maxHeartbeats 4000000 in
theorem rover_any (M : Nat → Prop) (va vb : Value) (n : Nat) (R V : List Int) (w : World) (ha : Ints M w va R) (hb : Ints M w vb V) (hM : ∀ b, M b → b < w.heap.size) (hn : n ≤ 4096) (hgR : GoodR n R) (hgV : GoodR n V) :
    Calls Try.prog 35 #[va, vb] w (IntsPost M w (overTo n R V n)) := by
  have ha0 := Lib.hid ha
  have hb0 := Lib.hid hb
  obtain ⟨a, c, rfl, -, -⟩ := ha.open
  obtain ⟨a', c', rfl, -, -⟩ := hb.open
  have hlR := hgR.len
  have hlV := hgV.len
  rw [hgR.len] at ha0
  rw [hgV.len] at hb0
  rw [hgR.len, hgV.len]
  clear ha hb
  replace hlR := Lib.hid hlR
  replace hlV := Lib.hid hlV
  replace hgR := Lib.hid hgR
  replace hgV := Lib.hid hgV
  replace hM := Lib.hid hM
  go_enter Try.func35, Try.ntmps35
  go_wp2
  go_loopw [5, 6] (fun v i wr => ∃ k : Nat, k ≤ n ∧ i = .int .i64 k ∧ Ints M wr v (overTo n R V k) ∧ Mut (fun _ => False) w wr) (fun _ i _ => n - (intOf i).toNat)
  case atStart => exact ⟨0, by omega, rfl, ha0.out, Mut.refl _ _⟩
  case round =>
    obtain ⟨k, hk, rfl, hv, hm⟩ := hrel
    clear ha0
    by_cases hlt : k < n
    · obtain ⟨b, off, x, rfl, hx, hcx⟩ := Ints.slot hb0.out hm (k := k) (by rw [hlV.out]; exact hlt)
      obtain ⟨r, hrk, hr, hrr⟩ := hgV.out.rep k hlt
      rw [hr] at hx
      obtain rfl : x = (r : Int) := (Option.some.inj hx).symm
      obtain ⟨x1, _, hx1, _⟩ := (hgR.out.over V k).rep k hlt
      obtain ⟨y1, _, hy1, _⟩ := (hgR.out.over V k).rep r (by omega)
      have hst := overTo_succ hgR.out hgV.out hlt hr hx1 hy1
      replace hst := Lib.hid hst
      have hlk := (hgR.out.over V k).len
      have hMs : ∀ b, M b → b < wr.heap.size := fun b h => Nat.lt_of_lt_of_le (hM.out b h) hm.size
      replace hMs := Lib.hid hMs
      replace hx1 := Lib.hid hx1
      replace hy1 := Lib.hid hy1
      replace hlk := Lib.hid hlk
      replace hv := Lib.hid hv
      replace hm := Lib.hid hm
      clear hx hr hrr
      go_wp2_with fail
      refine (rjoin_any M _ _ k r x1 y1 _ hv.out hMs.out (by rw [hlk.out]; exact hn) hx1.out hy1.out).mono ?_
      unfold RJoinPost
      rw [← hst.out]
      rintro e w4 ⟨v4, rfl, hv4, hm4⟩
      have H := Lib.hid (And.intro hv4 (hm.out.trans hm4))
      obtain ⟨a4, c4, rfl, -, -⟩ := hv4.open
      clear hv4 hm4 hv hm
      generalize ((x1 : Int) != (y1 : Int)) = bq
      go_wp2
      go_roundw
      case rel => exact ⟨k + 1, by omega, by go_num, H.out.1, H.out.2⟩
      case measure => simp [intOf]; omega
    · obtain rfl : k = n := by omega
      have H := Lib.hid (show IntsPost M w (overTo k R V k) (.returned u5) wr from ⟨_, rfl, hv, hm⟩)
      obtain ⟨a4, c4, rfl, -, -⟩ := hv.open
      clear hv hm hb0
      go_wp2
      go_ret
      exact H.out
end Go.Proofs.Ytojfpobgncapjaa
