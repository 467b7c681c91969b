/- The state of many partitions and lists, and the contracts over it. No condition but the state. -/
import Derived.Test.YtojfpobgncapjaaWv
set_option linter.unusedSimpArgs false
set_option linter.unusedVariables false
set_option maxHeartbeats 400000
namespace Go.Proofs.Ytojfpobgncapjaa
open Go Go.RowKit Go.PP

structure PE where
  p : Nat
  u : Nat
  n : Nat
  R : List Int

def MU (L : List PE) (b : Nat) : Prop := ∃ x ∈ L, b = x.u ∨ b = x.p

structure Apart' (x y : PE) : Prop extends Apart x.p x.u y.p y.u where
  d : x.p ≠ y.p
theorem Apart'.symm {x y : PE} (h : Apart' x y) : Apart' y x := ⟨h.toApart.symm, h.d.symm⟩

/-- The partitions of L and the lists of I are there, new since w0, apart from one another. -/
structure All (w0 : World) (L : List PE) (I : List (Value × List Int)) (w : World) : Prop where
  part : ∀ x ∈ L, Part w x.p x.u x.n x.R
  new : ∀ x ∈ L, w0.heap.size ≤ x.p ∧ w0.heap.size ≤ x.u
  apart : ∀ (i j : Nat) (x y : PE), i ≠ j → L[i]? = some x → L[j]? = some y → Apart' x y
  ints : ∀ y ∈ I, Ints (MU L) w y.1 y.2
  mu : Mut (fun _ => False) w0 w

theorem All.start (w : World) : All w [] [] w := ⟨fun _ h => by simp at h, fun _ h => by simp at h, fun _ _ _ _ _ h => by simp at h, fun _ h => by simp at h, Mut.refl _ _⟩

theorem All.get {w0 w : World} {L : List PE} {I : List (Value × List Int)} (h : All w0 L I w) {i : Nat} {x : PE} (hi : L[i]? = some x) : Part w x.p x.u x.n x.R := h.part x (List.mem_of_getElem? hi)

theorem All.quiet {w0 w w' : World} {L : List PE} {I : List (Value × List Int)} (h : All w0 L I w) (hm : Mut (fun _ => False) w w') : All w0 L I w' :=
  ⟨fun x hx => (h.part x hx).mut hm (by simp) (by simp), h.new, h.apart, fun y hy => (h.ints y hy).mut hm (by simp), h.mu.trans hm⟩

/-- The up-block of one partition was written, its representatives are as they were. -/
theorem All.write {w0 w w' : World} {L : List PE} {I : List (Value × List Int)} (h : All w0 L I w) {i : Nat} {x : PE} (hi : L[i]? = some x) {S : Nat → Prop} (hm : Mut S w w') (hS : ∀ b, S b → b = x.u) (hP : Part w' x.p x.u x.n x.R) : All w0 L I w' := by
  have hx := List.mem_of_getElem? hi
  refine ⟨fun y hy => ?_, h.new, h.apart, fun y hy => (h.ints y hy).mut hm (fun b _ e => ⟨x, hx, .inl (hS b e)⟩), h.mu.trans' hm (fun i hi e => by have := (h.new x hx).2; have := hS i e; omega)⟩
  obtain ⟨j, hj⟩ := List.getElem?_of_mem hy
  by_cases e : i = j
  · subst e
    rw [hi] at hj
    obtain rfl := Option.some.inj hj
    exact hP
  · have ha := h.apart i j x y e hi hj
    exact (h.part y hy).mut hm (fun e => ha.b (hS _ e)) (fun e => ha.c (hS _ e).symm)

theorem All.write2 {w0 w w' : World} {L : List PE} {I : List (Value × List Int)} (h : All w0 L I w) {i j : Nat} {x y : PE} (hi : L[i]? = some x) (hj : L[j]? = some y)
    (hB : Both w x.p x.u x.n x.R y.p y.u y.n y.R w') : All w0 L I w' := by
  have hx := List.mem_of_getElem? hi
  have hy := List.mem_of_getElem? hj
  refine ⟨fun z hz => ?_, h.new, h.apart, fun z hz => (h.ints z hz).mut hB.mu (fun b _ e => by rcases e with e | e; exact ⟨x, hx, .inl e⟩; exact ⟨y, hy, .inl e⟩),
    h.mu.trans' hB.mu (fun i hi e => by have := (h.new x hx).2; have := (h.new y hy).2; rcases e with e | e <;> omega)⟩
  obtain ⟨k, hk⟩ := List.getElem?_of_mem hz
  by_cases e : i = k
  · subst e
    rw [hi] at hk
    obtain rfl := Option.some.inj hk
    exact hB.l
  · by_cases e2 : j = k
    · subst e2
      rw [hj] at hk
      obtain rfl := Option.some.inj hk
      exact hB.r
    · have ha := h.apart i k x z e hi hk
      have hb := h.apart j k y z e2 hj hk
      exact (h.part z hz).mut hB.mu (fun e => by rcases e with e | e; exact ha.b e; exact hb.b e) (fun e => by rcases e with e | e; exact ha.c e.symm; exact hb.c e.symm)

theorem MU.lt {w : World} {L : List PE} (h : ∀ x ∈ L, Part w x.p x.u x.n x.R) {b : Nat} (hb : MU L b) : b < w.heap.size := by
  obtain ⟨x, hx, rfl | rfl⟩ := hb
  · exact (h x hx).ult
  · exact (h x hx).plt

/-- A new partition, made while nothing old was written. -/
theorem All.add {w0 w w' : World} {L : List PE} {I : List (Value × List Int)} (h : All w0 L I w') (h0 : w0.heap.size ≤ w.heap.size) (hL : ∀ b, MU L b → b < w.heap.size) (hI : ∀ y ∈ I, Ints (MU L) w y.1 y.2)
    (hI' : ∀ y ∈ I, ∀ M : Nat → Prop, (∀ b, b < w.heap.size → M b → MU L b) → Ints M w y.1 y.2 → Ints M w' y.1 y.2) (x : PE) (hp : w.heap.size ≤ x.p) (hu : w.heap.size ≤ x.u) (hP : Part w' x.p x.u x.n x.R) : All w0 (L ++ [x]) I w' := by
  refine ⟨fun y hy => ?_, fun y hy => ?_, fun i j a b hij ha hb => ?_, fun y hy => hI' y hy _ ?_ ((hI y hy).mono ?_), h.mu⟩
  · rcases List.mem_append.1 hy with hy | hy
    · exact h.part y hy
    · simp at hy; subst hy; exact hP
  · rcases List.mem_append.1 hy with hy | hy
    · exact h.new y hy
    · simp at hy; subst hy; omega
  · have key : ∀ k c, (L ++ [x])[k]? = some c → (k < L.length ∧ L[k]? = some c) ∨ (k = L.length ∧ c = x) := by
      intro k c hc
      rcases Nat.lt_trichotomy k L.length with e | e | e
      · rw [List.getElem?_append_left e] at hc; exact .inl ⟨e, hc⟩
      · subst e; rw [List.getElem?_append_right (Nat.le_refl _)] at hc; simp at hc; exact .inr ⟨rfl, hc.symm⟩
      · rw [List.getElem?_eq_none (by simp; omega)] at hc; cases hc
    have old : ∀ k c, L[k]? = some c → Apart' c x := fun k c hc => by
      have hm := List.mem_of_getElem? hc
      have h1 := hL c.u ⟨c, hm, .inl rfl⟩
      have h2 := hL c.p ⟨c, hm, .inr rfl⟩
      exact ⟨⟨by omega, by omega, by omega⟩, by omega⟩
    rcases key i a ha with ⟨_, h1⟩ | ⟨h1, rfl⟩
    · rcases key j b hb with ⟨_, h2⟩ | ⟨h2, rfl⟩
      · exact h.apart i j a b hij h1 h2
      · exact old i a h1
    · rcases key j b hb with ⟨_, h2⟩ | ⟨h2, rfl⟩
      · exact (old j b h2).symm
      · omega
  all_goals
    intro b hb hbM
    obtain ⟨z, hz, hzb⟩ := hbM
    rcases List.mem_append.1 hz with hz | hz
    · exact ⟨z, hz, hzb⟩
    · simp at hz; subst hz; rcases hzb with e | e <;> omega

theorem All.addP {w0 w w' : World} {L : List PE} {I : List (Value × List Int)} (h : All w0 L I w) (hm : Mut (fun _ => False) w w') (x : PE) (hp : w.heap.size ≤ x.p) (hu : w.heap.size ≤ x.u) (hP : Part w' x.p x.u x.n x.R) : All w0 (L ++ [x]) I w' :=
  (h.quiet hm).add h.mu.size (fun b hb => MU.lt h.part hb) h.ints (fun y hy M _ hv => hv.mut hm (by simp)) x hp hu hP

theorem All.addI {w0 w : World} {L : List PE} {I : List (Value × List Int)} (h : All w0 L I w) (v : Value) (xs : List Int) (hv : Ints (MU L) w v xs) : All w0 L (I ++ [(v, xs)]) w :=
  ⟨h.part, h.new, h.apart, fun y hy => by
    rcases List.mem_append.1 hy with hy | hy
    · exact h.ints y hy
    · simp at hy; subst hy; exact hv, h.mu⟩

theorem All.B {w0 w w' : World} {L : List PE} {I : List (Value × List Int)} (h : All w0 L I w) {i j : Nat} {x y : PE} (hi : L[i]? = some x) (hj : L[j]? = some y)
    (hB : Both w x.p x.u x.n x.R y.p y.u y.n y.R w') (z : PE) (hp : w.heap.size ≤ z.p) (hu : w.heap.size ≤ z.u) (hP : Part w' z.p z.u z.n z.R) : All w0 (L ++ [z]) I w' :=
  (h.write2 hi hj hB).add h.mu.size (fun b hb => MU.lt h.part hb) h.ints (fun q hq M hM hv => by
    have hx := List.mem_of_getElem? hi
    have hy := List.mem_of_getElem? hj
    have := (h.ints q hq).mut hB.mu (fun b _ e => by rcases e with e | e; exact ⟨x, hx, .inl e⟩; exact ⟨y, hy, .inl e⟩)
    obtain ⟨a, c, he, hl, hcell⟩ := this
    refine ⟨a, c, he, hl, fun i hi => ?_⟩
    obtain ⟨b, off, u, q1, q2, q3, q4⟩ := hcell i hi
    obtain ⟨a', c', he', hl', hcell'⟩ := hv
    obtain ⟨b', off', u', r1, r2, r3, r4⟩ := hcell' i hi
    rw [he'] at he
    simp only [Value.slice.injEq] at he
    rw [he.1, q1] at r1
    simp only [Option.some.injEq, Addr.mk.injEq, and_true] at r1
    exact ⟨b, off, u, q1, by rw [r1.1]; exact r2, q3, q4⟩) z hp hu hP

/-! ### the contracts -/
variable {w0 w : World} {L : List PE} {I : List (Value × List Int)}

theorem known_all (h : All w0 L I w) : Calls Try.prog 12 #[] w fun e w' => e = .returned (.bool true) ∧ All w0 L I w' :=
  (known_any w).mono fun _ _ k => ⟨k.1, h.quiet k.2⟩

theorem made_all (h : All w0 L I w) {n : Nat} {vp : Value} {ps : List (Int × Int)} (hn : n ≤ 40) (hp : Pairs w vp ps) :
    Calls Try.prog 11 #[.int .i64 n, vp] w fun e w' => ∃ p u v, e = .returned (.tuple #[.pointer (some ⟨p, 0, none⟩), v]) ∧ All w0 (L ++ [⟨p, u, n, foldP n ps (min ps.length 60)⟩]) (I ++ [(v, foldP n ps (min ps.length 60))]) w' ∧ Mut (fun _ => False) w w' := by
  refine (made2_any n vp ps w hn hp).mono ?_
  rintro e w' ⟨p, u, v, rfl, h1, h2, h3, h4, h5⟩
  refine ⟨p, u, v, rfl, (h.addP h5 ⟨p, u, n, _⟩ h1 h2 h3).addI v _ (h4.mono fun b _ hb => ?_), h5⟩
  obtain ⟨z, hz, hzb⟩ := hb
  rcases List.mem_append.1 hz with hz | hz
  · have := MU.lt h.part ⟨z, hz, hzb⟩; exact .inl this
  · simp at hz; subst hz; exact .inr hzb

theorem clone_all (h : All w0 L I w) (i : Nat) {x : PE} (hi : L[i]? = some x) :
    Calls Try.prog 28 #[.pointer (some ⟨x.p, 0, none⟩)] w fun e w' => ∃ p u, e = .returned (.pointer (some ⟨p, 0, none⟩)) ∧ All w0 (L ++ [⟨p, u, x.n, x.R⟩]) I w' := by
  refine (clone_any w x.p x.u x.n x.R (h.get hi)).mono ?_
  rintro e w' ⟨q, v, rfl, h1, h2, h3, h4, h5⟩
  exact ⟨q, v, rfl, h.addP h5 ⟨q, v, x.n, x.R⟩ h1 h2 h3⟩

theorem refines_all (h : All w0 L I w) (i j : Nat) {x y : PE} (hi : L[i]? = some x) (hj : L[j]? = some y) (hij : i ≠ j) (hn : x.n = y.n) :
    Calls Try.prog 27 #[.pointer (some ⟨x.p, 0, none⟩), .pointer (some ⟨y.p, 0, none⟩)] w fun e w' => e = .returned (.bool (refB x.n x.R y.R)) ∧ All w0 L I w' := by
  refine (refines_any w x.p x.u x.n x.R y.p y.u y.R (h.get hi) (hn ▸ h.get hj) (h.apart i j x y hij hi hj).toApart).mono ?_
  rintro e w' ⟨rfl, hB⟩
  exact ⟨rfl, h.write2 hi hj (hn ▸ hB)⟩

theorem equal_all (h : All w0 L I w) (i j : Nat) {x y : PE} (hi : L[i]? = some x) (hj : L[j]? = some y) (hij : i ≠ j) (hn : x.n = y.n) :
    Calls Try.prog 23 #[.pointer (some ⟨x.p, 0, none⟩), .pointer (some ⟨y.p, 0, none⟩)] w fun e w' => e = .returned (.bool (refB x.n x.R y.R && refB x.n y.R x.R)) ∧ All w0 L I w' := by
  refine (equal_any w x.p x.u x.n x.R y.p y.u y.R (h.get hi) (hn ▸ h.get hj) (h.apart i j x y hij hi hj).toApart).mono ?_
  rintro e w' ⟨rfl, hB⟩
  exact ⟨rfl, h.write2 hi hj (hn ▸ hB)⟩

theorem meet_all (h : All w0 L I w) (i j : Nat) {x y : PE} (hi : L[i]? = some x) (hj : L[j]? = some y) (hij : i ≠ j) (hn : x.n = y.n) :
    Calls Try.prog 25 #[.pointer (some ⟨x.p, 0, none⟩), .pointer (some ⟨y.p, 0, none⟩)] w fun e w' => ∃ p u out, e = .returned (.tuple #[.pointer (some ⟨p, 0, none⟩), .int .i64 0]) ∧ IsBy x.R y.R x.n out ∧ All w0 (L ++ [⟨p, u, x.n, out⟩]) I w' := by
  refine (meet_any w x.p x.u x.n x.R y.p y.u y.R (h.get hi) (hn ▸ h.get hj) (h.apart i j x y hij hi hj).toApart).mono ?_
  rintro e w' ⟨q, v, out, rfl, h1, h2, h3, h4, hB⟩
  exact ⟨q, v, out, rfl, h4, h.B hi hj (hn ▸ hB) ⟨q, v, x.n, out⟩ h1 h2 h3⟩

theorem join_all (h : All w0 L I w) (i j : Nat) {x y : PE} (hi : L[i]? = some x) (hj : L[j]? = some y) (hij : i ≠ j) (hn : x.n = y.n) :
    Calls Try.prog 26 #[.pointer (some ⟨x.p, 0, none⟩), .pointer (some ⟨y.p, 0, none⟩)] w fun e w' => ∃ p u, e = .returned (.tuple #[.pointer (some ⟨p, 0, none⟩), .int .i64 0]) ∧ All w0 (L ++ [⟨p, u, x.n, overTo x.n x.R y.R x.n⟩]) I w' := by
  refine (joinp_any w x.p x.u x.n x.R y.p y.u y.R (h.get hi) (hn ▸ h.get hj) (h.apart i j x y hij hi hj).toApart).mono ?_
  rintro e w' ⟨q, v, rfl, h1, h2, h3, hB⟩
  exact ⟨q, v, rfl, h.B hi hj (hn ▸ hB) ⟨q, v, x.n, _⟩ h1 h2 h3⟩

theorem same_all (h : All w0 L I w) (i k : Nat) {x : PE} {v : Value} (hi : L[i]? = some x) (hk : I[k]? = some (v, x.R)) :
    Calls Try.prog 20 #[.pointer (some ⟨x.p, 0, none⟩), v] w fun e w' => e = .returned (.bool true) ∧ All w0 L I w' := by
  have hv := h.ints _ (List.mem_of_getElem? hk)
  have hx := List.mem_of_getElem? hi
  refine (psame_true w x.p x.u x.n x.R v (h.get hi) (hv.mono fun b _ e => ⟨x, hx, .inl e⟩)).mono ?_
  rintro e w' ⟨rfl, h1, h2, h3⟩
  exact ⟨rfl, h.write hi h3 (fun _ e => e) h1⟩

theorem rmeet_all (h : All w0 L I w) (i j : Nat) {va vb : Value} {A B : List Int} (hi : I[i]? = some (va, A)) (hj : I[j]? = some (vb, B)) (hn : A.length ≤ 4096) (hl : A.length = B.length) :
    Calls Try.prog 34 #[va, vb] w fun e w' => ∃ v out, e = .returned v ∧ IsBy A B A.length out ∧ All w0 L (I ++ [(v, out)]) w' := by
  refine (rmeet_any (MU L) va vb A B w (h.ints _ (List.mem_of_getElem? hi)) (h.ints _ (List.mem_of_getElem? hj)) (fun b hb => MU.lt h.part hb) hn hl).mono ?_
  rintro e w' ⟨v, out, rfl, h1, h2, h3⟩
  exact ⟨v, out, rfl, h2, (h.quiet h3).addI v out h1⟩

theorem rsplit_all (h : All w0 L I w) (i j : Nat) {va vb : Value} {A B : List Int} (hi : I[i]? = some (va, A)) (hj : I[j]? = some (vb, B)) (hn : A.length ≤ 4096) (hl : A.length = B.length) :
    Calls Try.prog 30 #[va, vb] w fun e w' => ∃ v out, e = .returned v ∧ IsBy A B A.length out ∧ All w0 L (I ++ [(v, out)]) w' := by
  refine (rsplit_any (MU L) va vb A B w (h.ints _ (List.mem_of_getElem? hi)) (h.ints _ (List.mem_of_getElem? hj)) (fun b hb => MU.lt h.part hb) hn hl).mono ?_
  rintro e w' ⟨v, out, rfl, h1, h2, h3⟩
  exact ⟨v, out, rfl, h2, (h.quiet h3).addI v out h1⟩

theorem rover_all (h : All w0 L I w) (i j : Nat) {va vb : Value} {n : Nat} {A B : List Int} (hi : I[i]? = some (va, A)) (hj : I[j]? = some (vb, B)) (hn : n ≤ 4096) (ha : GoodR n A) (hb : GoodR n B) :
    Calls Try.prog 35 #[va, vb] w fun e w' => ∃ v, e = .returned v ∧ All w0 L (I ++ [(v, overTo n A B n)]) w' := by
  refine (rover_any (MU L) va vb n A B w (h.ints _ (List.mem_of_getElem? hi)) (h.ints _ (List.mem_of_getElem? hj)) (fun b hb => MU.lt h.part hb) hn ha hb).mono ?_
  rintro e w' ⟨v, rfl, h2, h3⟩
  exact ⟨v, rfl, (h.quiet h3).addI v _ h2⟩

theorem rfiner_all (h : All w0 L I w) (i j : Nat) {va vb : Value} {n : Nat} {A B : List Int} (hi : I[i]? = some (va, A)) (hj : I[j]? = some (vb, B)) (hn : n ≤ 4096) (ha : GoodR n A) (hb : GoodR n B) :
    Calls Try.prog 36 #[va, vb] w fun e w' => e = .returned (.bool (refB n A B)) ∧ All w0 L I w' := by
  have hla := ha.len
  have hlb := hb.len
  refine (rfiner_any (MU L) va vb A B w (h.ints _ (List.mem_of_getElem? hi)) (h.ints _ (List.mem_of_getElem? hj)) (by omega) (by omega) (fun i hi => by
    obtain ⟨r, h1, h2, h3⟩ := ha.rep i (by omega)
    exact ⟨r, h2, by omega⟩)).mono ?_
  rw [hla]
  rintro e w' ⟨rfl, h3⟩
  exact ⟨rfl, h.quiet h3⟩
end Go.Proofs.Ytojfpobgncapjaa
