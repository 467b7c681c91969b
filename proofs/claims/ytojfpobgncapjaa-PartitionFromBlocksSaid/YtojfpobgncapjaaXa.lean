/- Contracts of FromBlocks and of the reference's Of. Condition: a list of lists of ints in memory. -/
import Derived.Test.YtojfpobgncapjaaWx
set_option linter.unusedSimpArgs false
set_option linter.unusedVariables false
set_option maxHeartbeats 400000
namespace Go.Proofs.Ytojfpobgncapjaa
open Go Go.RowKit Go.PP

/-! ### the plain computation -/
inductive Res where
  | bad (e : Nat)
  | good (R : List Int) (S : Nat → Bool)

def ofRow (n : Nat) (f : Int) : List Int → List Int → (Nat → Bool) → Res
  | [], R, S => .good R S
  | a :: l, R, S => if thereB n a = true then (if S a.toNat = true then .bad 7 else ofRow n f l (stepPair n R f a) (fun i => if i = a.toNat then true else S i)) else .bad 1

def ofRows (n : Nat) : List (List Int) → List Int → (Nat → Bool) → Res
  | [], R, S => .good R S
  | xs :: xss, R, S => match ofRow n (xs.headD 0) xs R S with
    | .bad e => .bad e
    | .good R' S' => ofRows n xss R' S'

def thenRows (n : Nat) (xss : List (List Int)) : Res → Res
  | .bad e => .bad e
  | .good R S => ofRows n xss R S

theorem ofRows_at {n : Nat} {xss : List (List Int)} {i : Nat} {xs : List Int} (h : xss[i]? = some xs) (R : List Int) (S : Nat → Bool) :
    ofRows n (xss.drop i) R S = thenRows n (xss.drop (i + 1)) (ofRow n (xs.headD 0) (xs.drop 0) R S) := by
  obtain ⟨hi, rfl⟩ := List.getElem?_eq_some_iff.1 h
  rw [List.drop_eq_getElem_cons hi, List.drop_zero, ofRows]
  generalize ofRow n (xss[i].headD 0) xss[i] R S = r
  cases r <;> rfl
theorem ofRows_end {n : Nat} {xss : List (List Int)} (R : List Int) (S : Nat → Bool) : ofRows n (xss.drop xss.length) R S = .good R S := by simp [ofRows]
theorem ofRow_end {n : Nat} {f : Int} {xs : List Int} (R : List Int) (S : Nat → Bool) : ofRow n f (xs.drop xs.length) R S = .good R S := by simp [ofRow]
theorem ofRow_out {n : Nat} {f : Int} {xs : List Int} {k : Nat} {a : Int} (h : xs[k]? = some a) (ha : thereB n a = false) (R : List Int) (S : Nat → Bool) : ofRow n f (xs.drop k) R S = .bad 1 := by
  obtain ⟨hk, rfl⟩ := List.getElem?_eq_some_iff.1 h
  rw [List.drop_eq_getElem_cons hk, ofRow]; simp [ha]
theorem ofRow_dup {n : Nat} {f : Int} {xs : List Int} {k : Nat} {a : Nat} (h : xs[k]? = some (a : Int)) (ha : thereB n a = true) (R : List Int) (S : Nat → Bool) (hs : S a = true) : ofRow n f (xs.drop k) R S = .bad 7 := by
  obtain ⟨hk, e⟩ := List.getElem?_eq_some_iff.1 h
  rw [List.drop_eq_getElem_cons hk, ofRow, e]; simp [ha, hs]
theorem ofRow_next {n : Nat} {f : Int} {xs : List Int} {k : Nat} {a : Nat} (h : xs[k]? = some (a : Int)) (ha : thereB n a = true) (R : List Int) (S : Nat → Bool) (hs : S a = false) :
    ofRow n f (xs.drop k) R S = ofRow n f (xs.drop (k + 1)) (stepPair n R f a) (fun i => if i = a then true else S i) := by
  obtain ⟨hk, e⟩ := List.getElem?_eq_some_iff.1 h
  rw [List.drop_eq_getElem_cons hk, ofRow, e]; simp [ha, hs]

/-! ### the rows in memory -/
theorem IntsL.row {w wr : World} {a : Option Addr} {n c : Nat} {xss : List (List Int)} (h : IntsL (fun _ => False) w (.slice a n c) xss) (hm : Mut (fun _ => False) w wr) {i : Nat} (hi : i < xss.length) :
    ∃ b off ra rc xs, a = some ⟨b, off, none⟩ ∧ xss[i]? = some xs ∧ wr.cell? ⟨b, off + i, none⟩ = some (.slice ra xs.length rc) ∧ Ints (fun _ => False) w (.slice ra xs.length rc) xs := by
  obtain ⟨a', c', h1, _, h3⟩ := h.open
  obtain ⟨b, off, v', xs, q1, _, q3, q4, q5⟩ := h3 i hi
  simp only [Value.slice.injEq] at h1
  obtain ⟨ra, rc, rfl, -, -⟩ := q5.open
  exact ⟨b, off, ra, rc, xs, h1.1.trans q1, q3, hm.cell q4 (by simp), q5⟩

theorem info4 : (Try.prog.info? 4).map (fun i => (i.zero, i.size, i.bytes)) = some (some (.bool false), 1, 1) := by kernel_rfl

def FromPost (w : World) (n : Nat) (T : Res) (e : Ending) (w' : World) : Prop :=
  match T with
  | .bad k => e = .returned (.tuple #[.pointer none, .int .i64 k]) ∧ Mut (fun _ => False) w w'
  | .good R _ => ∃ p u, e = .returned (.tuple #[.pointer (some ⟨p, 0, none⟩), .int .i64 0]) ∧ w.heap.size ≤ p ∧ w.heap.size ≤ u ∧ Part w' p u n R ∧ Mut (fun _ => False) w w'

def seenF (S : Nat → Bool) (i : Nat) : Value := .bool (S i)
theorem seen_set {w : World} {s n : Nat} {S : Nat → Bool} (h : w.rowIs s 4 n (seenF S)) (a : Nat) : (w.setCell ⟨s, a, none⟩ (.bool true)).rowIs s 4 n (seenF fun i => if i = a then true else S i) :=
  (h.set a (.bool true)).congr (fun i hi => by
    unfold seenF
    by_cases e : i = a
    · subst e; simp
    · simp [e])
theorem rowIs_mut {w w' : World} {s t n : Nat} {f : Nat → Value} (h : w.rowIs s t n f) {S : Nat → Prop} (m : Mut S w w') (hs : ¬ S s) : w'.rowIs s t n f := by
  obtain ⟨c, h1, h2, h3⟩ := h
  exact ⟨c, m.heap h1 hs, h2, h3⟩

theorem from_no (n : Int) (vb : Value) (w : World) (h : n < 0 ∨ 4096 < n) : Calls Try.prog 31 #[.int .i64 n, vb] w fun e w' => e = .returned (.tuple #[.pointer none, .int .i64 2]) ∧ w = w' := by
  replace h := Lib.hid h
  go_enter Try.func31, Try.ntmps31
  go_wp2_with fail
  refine (new_no n _ h.out).mono ?_
  rintro e w1 ⟨rfl, rfl⟩
  go_wp2
  go_ret2
  exact ⟨rfl, rfl⟩

set_option maxRecDepth 8000 in
set_option maxHeartbeats 8000000 in
theorem from_any (n : Nat) (vb : Value) (xss : List (List Int)) (w : World) (hn : n ≤ 4096) (hv : IntsL (fun _ => False) w vb xss) :
    Calls Try.prog 31 #[.int .i64 n, vb] w (FromPost w n (ofRows n xss (iota n) fun _ => false)) := by
  have hv0 := Lib.hid hv
  obtain ⟨va, vc, rfl, hl, -⟩ := hv.open
  clear hv
  generalize hT : ofRows n xss (iota n) (fun _ => false) = T
  replace hT := Lib.hid hT
  have hmk := fun w => run_make_row' (P := Try.prog) 75 4 (.bool false) 1 Try.underlying75 info4 rfl .i64 .i64 n (by omega) (by omega) w
  go_enter Try.func31, Try.ntmps31
  go_wp2_with fail
  refine (new_any n w hn).mono ?_
  rintro e w1 ⟨p, u, rfl, hp, hu, hP, hm⟩
  have hplt := hP.plt
  have hult := hP.ult
  obtain ⟨s, hs⟩ : ∃ s, s = w1.heap.size := ⟨_, rfl⟩
  have hP1 := Lib.hid (hP.mut ((Mut.refl (fun _ => False) w1).alloc (.cells (madeCells #[.bool false] n) 4)) (by simp) (by simp))
  have hr1 := Lib.hid (World.rowIs_made w1 (.bool false) n 4)
  have hm1 := Lib.hid (hm.alloc (.cells (madeCells #[.bool false] n) 4))
  have hsz := hm.size
  clear hP hm
  go_wp2
  go_loopw [25] (fun i wr => ∃ (k : Nat) (R : List Int) (S : Nat → Bool), k ≤ xss.length ∧ i = .int .i64 k ∧ ofRows n (xss.drop k) R S = T ∧ Part wr p u n R ∧ wr.rowIs w1.heap.size 4 n (seenF S) ∧ Mut (fun _ => False) w wr) (fun i _ => xss.length - (intOf i).toNat)
  case atStart => exact ⟨0, iota n, fun _ => false, by omega, rfl, by rw [List.drop_zero]; exact hT.out, hP1.out, hr1.out, hm1.out⟩
  case round =>
    obtain ⟨k, R, S, hk, rfl, hT2, hP2, hr2, hm2⟩ := hrel
    clear hP1 hr1 hm1 hmk hT
    by_cases hlt : k < xss.length
    · obtain ⟨b, off, ra, rc, xs, rfl, hx, hcx, hrow⟩ := IntsL.row hv0.out hm2 hlt
      have hxl := hrow.len
      rw [List.length_map] at hxl
      rw [ofRows_at hx] at hT2
      have hrow0 := Lib.hid hrow
      have hP2 := Lib.hid hP2
      have hr2 := Lib.hid hr2
      have hm2 := Lib.hid hm2
      have hT2 := Lib.hid hT2
      replace hx := Lib.hid hx
      clear hrow
      go_wp2
      obtain ⟨wo, rfl⟩ : ∃ wo : World, wo = wr := ⟨_, rfl⟩
      go_loopw [31] (fun i w' => ∃ (j : Nat) (R : List Int) (S : Nat → Bool), j ≤ xs.length ∧ i = .int .i64 j ∧ thenRows n (xss.drop (k + 1)) (ofRow n (xs.headD 0) (xs.drop j) R S) = T ∧ (j = 0 ∨ thereB n (xs.headD 0) = true) ∧ Part w' p u n R ∧ w'.rowIs w1.heap.size 4 n (seenF S) ∧ Mut (fun _ => False) w w') (fun i _ => xs.length - (intOf i).toNat)
      case atStart => exact ⟨0, R, S, by omega, rfl, hT2.out, .inl rfl, hP2.out, hr2.out, hm2.out⟩
      case round =>
        obtain ⟨j, R', S', hj, rfl, hT3, hf, hP3, hr3, hm3⟩ := hrel
        clear hP2 hr2 hm2 hT2
        by_cases hjl : j < xs.length
        · obtain ⟨b2, off2, x, rfl, hxj, hcj⟩ := Ints.slot hrow0.out hm3 hjl
          replace hP3 := Lib.hid hP3
          replace hm3 := Lib.hid hm3
          cases ht : thereB n x with
          | false =>
            rw [ofRow_out hxj ht] at hT3
            replace ht := Lib.hid ht
            have hT4 : FromPost w n T (.returned (.tuple #[.pointer none, .int .i64 1])) wr := by rw [← hT3]; exact ⟨rfl, hm3.out⟩
            replace hT4 := Lib.hid hT4
            clear hT3 hr3 hf hxj
            go_wp2_with fail
            refine (there_any x _ p u n R' hP3.out).mono ?_
            rw [ht.out]
            rintro e w4 ⟨rfl, rfl⟩
            go_wp2
            go_ret2
            exact hT4.out
          | true =>
            obtain ⟨a, rfl, ha⟩ := thereB_true ht
            have hct := hr3.cell ha
            have hft := hr3.frozen a
            cases hS : S' a with
            | true =>
              rw [ofRow_dup hxj ht R' S' hS] at hT3
              replace ht := Lib.hid ht
              have hT4 : FromPost w n T (.returned (.tuple #[.pointer none, .int .i64 7])) wr := by rw [← hT3]; exact ⟨rfl, hm3.out⟩
              replace hT4 := Lib.hid hT4
              simp only [seenF, hS] at hct
              clear hT3 hr3 hf hxj hS
              go_wp2_with fail
              refine (there_any a _ p u n R' hP3.out).mono ?_
              rw [ht.out]
              rintro e w4 ⟨rfl, rfl⟩
              go_wp2
              go_ret2
              exact hT4.out
            | false =>
              rw [ofRow_next hxj ht R' S' hS] at hT3
              simp only [seenF, hS] at hct
              obtain ⟨y0, hy0⟩ : ∃ y0, xs[0]? = some y0 := ⟨xs[0]'(by omega), by simp⟩
              have hhd : xs.headD 0 = y0 := by cases xs with
                | nil => simp at hy0
                | cons z zs => simp at hy0; simp [hy0]
              have hft2 : thereB n y0 = true := by
                rcases hf with rfl | hf
                · rw [hxj] at hy0; rw [← Option.some.inj hy0]; exact ht
                · rw [← hhd]; exact hf
              obtain ⟨f, rfl, hfn⟩ := thereB_true hft2
              rw [hhd] at hT3 hf
              obtain ⟨b3, off3, x3, hb3, hx3, hc3⟩ := Ints.slot hrow0.out hm3.out (k := 0) (by omega)
              simp only [Option.some.injEq, Addr.mk.injEq, and_true] at hb3
              obtain ⟨rfl, rfl⟩ := hb3
              rw [hy0] at hx3
              obtain rfl := (Option.some.inj hx3).symm
              have hr4 := Lib.hid (seen_set hr3 a)
              have hm4 := Lib.hid (hm3.out.setCell (p := ⟨w1.heap.size, a, none⟩) (fun h => absurd h (by show ¬ w1.heap.size < w.heap.size; omega)) (.bool true))
              have hP4 := Lib.hid (hP3.out.mut (S := fun b => b = w1.heap.size) ((Mut.refl (fun b => b = w1.heap.size) wr).setCell (p := ⟨w1.heap.size, a, none⟩) (fun _ => rfl) (.bool true)) (by omega) (by omega))
              obtain ⟨b5, off5, x5, hb5, -, hc5⟩ := Ints.slot hrow0.out (Mut.refl _ w) (k := 0) (by omega)
              simp only [Option.some.injEq, Addr.mk.injEq, and_true] at hb5
              obtain ⟨rfl, rfl⟩ := hb5
              have hblt : b2 < w.heap.size := World.block_lt_of_cell? w _ hc5
              have hc4 : (wr.setCell ⟨w1.heap.size, a, none⟩ (.bool true)).cell? ⟨b2, off2, none⟩ = some (.int .i64 f) := by
                rw [cell_set_far (by omega)]; simpa using hc3
              have hm5 := fun w5 (hm5 : Mut (· = u) (wr.setCell ⟨w1.heap.size, a, none⟩ (.bool true)) w5) => hm4.out.trans' hm5 (fun i hi e => absurd e (by omega))
              have hr5 := fun w5 (hm5 : Mut (· = u) (wr.setCell ⟨w1.heap.size, a, none⟩ (.bool true)) w5) => rowIs_mut hr4.out hm5 (by omega)
              have hst := fun (x y : Nat) (hx : R'[f]? = some (x : Int)) (hy : R'[a]? = some (y : Int)) => show stepPair n R' f a = merged R' (max x y) (min x y) by simp [stepPair, hft2, ht, hx, hy]
              replace hst := Lib.hid hst
              replace hm5 := Lib.hid hm5
              replace hr5 := Lib.hid hr5
              replace ht := Lib.hid ht
              replace hft2 := Lib.hid hft2
              replace hT3 := Lib.hid hT3
              replace hhd := Lib.hid hhd
              clear hr3 hr4 hm4 hc5 hc3 hS hy0 hx3 hxj hf
              go_wp2_with fail
              refine (there_any a _ p u n R' hP3.out).mono ?_
              rw [ht.out]
              rintro e w4 ⟨rfl, rfl⟩
              clear hP3 hm3
              go_wp2_with fail
              refine (join_any f a _ p u n R' hP4.out hfn ha).mono ?_
              rintro e w5 ⟨x, y, hx, hy, rfl, hP5, hmu⟩
              rw [← hst.out x y hx hy] at hP5
              replace hP5 := Lib.hid hP5
              replace hm5 := Lib.hid (hm5.out _ hmu)
              replace hr5 := Lib.hid (hr5.out _ hmu)
              clear hx hy hmu hst hP4
              generalize ((x : Int) != (y : Int)) = bq
              go_wp2
              go_roundw
              case rel => exact ⟨j + 1, _, _, by omega, by go_num, by rw [hhd.out]; exact hT3.out, .inr (by rw [hhd.out]; exact hft2.out), hP5.out, hr5.out, hm5.out⟩
              case measure => simp [intOf]; omega
        · obtain rfl : j = xs.length := by omega
          rw [ofRow_end] at hT3
          have hT4 := Lib.hid hT3
          replace hP3 := Lib.hid hP3
          replace hm3 := Lib.hid hm3
          replace hr3 := Lib.hid hr3
          clear hT3
          go_wp2
          go_roundw
          case rel => exact ⟨k + 1, R', S', by omega, by go_num, hT4.out, hP3.out, hr3.out, hm3.out⟩
          case measure => simp [intOf]; omega
    · obtain rfl : k = xss.length := by omega
      rw [ofRows_end] at hT2
      subst hT2
      have H := Lib.hid (show FromPost w n (.good R S) (.returned (.tuple #[.pointer (some ⟨p, 0, none⟩), .int .i64 0])) wr from ⟨p, u, rfl, hp, hu, hP2, hm2⟩)
      clear hP2 hr2 hm2 hv0
      go_wp2
      go_ret2
      exact H.out
end Go.Proofs.Ytojfpobgncapjaa
