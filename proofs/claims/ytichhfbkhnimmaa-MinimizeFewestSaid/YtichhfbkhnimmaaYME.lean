/- Automata, plainly: steps, equivalent states. No condition. -/
import Derived.Test.YtichhfbkhnimmaaYMC

set_option linter.unusedSimpArgs false
set_option linter.unusedVariables false
set_option maxHeartbeats 400000
namespace Go.Mn
open Go Go.Rt
structure Sp where
  sym : Int
  at_ : Int
  other : Int
deriving DecidableEq
def Sp.args (s : Sp) (p : Int) : List Int := if s.other < 0 then [p] else if s.at_ = 0 then [p, s.other] else [s.other, p]
def nextI (A : Au) (s : Sp) (p : Int) : Int := atI A s.sym (s.args p)
def stepsS (A : Au) (i : Nat) : List Sp :=
  if A.ranks.getD i 0 = 1 then [⟨i, 0, -1⟩]
  else if A.ranks.getD i 0 = 2 then (List.range 2).flatMap fun (w : Nat) => ((List.range A.final.length).filter fun (m : Nat) => decide ((m : Int) ∈ foundA A)).map fun (m : Nat) => ⟨i, w, m⟩
  else []
def stepsA (A : Au) : List Sp := (List.range A.ranks.length).flatMap (stepsS A)
structure SpOk (A : Au) (s : Sp) : Prop where
  h : ∃ i : Nat, s.sym = i ∧ i < A.ranks.length ∧ ((A.ranks.getD i 0 = 1 ∧ s.at_ = 0 ∧ s.other = -1) ∨ (A.ranks.getD i 0 = 2 ∧ (s.at_ = 0 ∨ s.at_ = 1) ∧ 0 ≤ s.other ∧ s.other < A.final.length ∧ s.other ∈ foundA A))
theorem mem_steps {A : Au} {s : Sp} : s ∈ stepsA A ↔ SpOk A s := by
  unfold stepsA
  rw [List.mem_flatMap]
  constructor
  · rintro ⟨i, hi, hs⟩
    rw [List.mem_range] at hi
    unfold stepsS at hs
    split at hs
    · rename_i h1
      rw [List.mem_singleton] at hs
      subst hs
      exact ⟨i, rfl, hi, .inl ⟨h1, rfl, rfl⟩⟩
    · split at hs
      · rename_i h1 h2
        obtain ⟨w, hw, hs⟩ := List.mem_flatMap.1 hs
        rw [List.mem_range] at hw
        obtain ⟨m, hm, rfl⟩ := List.mem_map.1 hs
        rw [List.mem_filter, List.mem_range] at hm
        exact ⟨i, rfl, hi, .inr ⟨h2, by show (w : Int) = 0 ∨ (w : Int) = 1; omega, by show 0 ≤ (m : Int); omega, by show (m : Int) < _; omega, of_decide_eq_true hm.2⟩⟩
      · cases hs
  · rintro ⟨i, h1, h2, h3⟩
    refine ⟨i, List.mem_range.2 h2, ?_⟩
    obtain ⟨sy, w, o⟩ := s
    simp only at h1 h3
    subst h1
    unfold stepsS
    rcases h3 with ⟨h3, h4, h5⟩ | ⟨h3, h4, h5, h6, h7⟩
    · rw [if_pos h3, h4, h5]; exact List.mem_singleton.2 rfl
    · rw [if_neg (by omega), if_pos h3]
      obtain ⟨m, rfl⟩ := Int.eq_ofNat_of_zero_le h5
      obtain ⟨v, rfl⟩ : ∃ v : Nat, w = v := ⟨w.toNat, by omega⟩
      exact List.mem_flatMap.2 ⟨v, List.mem_range.2 (by omega), List.mem_map.2 ⟨m, List.mem_filter.2 ⟨List.mem_range.2 (by omega), decide_eq_true h7⟩, rfl⟩⟩
def InA (A : Au) (p : Int) : Prop := 0 ≤ p ∧ p < (A.final.length : Int)
theorem step_fits {A : Au} {s : Sp} (hs : SpOk A s) {p : Int} (hp : InA A p) : Fits A s.sym (s.args p) := by
  obtain ⟨i, h1, h2, h3⟩ := hs
  obtain ⟨q0, q1⟩ := hp
  refine ⟨by omega, by omega, ?_, ?_⟩
  · rw [h1, Int.toNat_natCast]
    unfold Sp.args
    rcases h3 with ⟨h3, h4, h5⟩ | ⟨h3, h4, h5, h6, h7⟩
    · rw [if_pos (by omega), h3]; rfl
    · rw [if_neg (by omega), h3]; split <;> rfl
  · intro x hx
    unfold Sp.args at hx
    split at hx
    · rw [List.mem_singleton] at hx; subst hx; exact ⟨q0, q1⟩
    · rcases h3 with ⟨h3, h4, h5⟩ | ⟨h3, h4, h5, h6, h7⟩
      · omega
      · split at hx
        · simp only [List.mem_cons, List.not_mem_nil, or_false] at hx
          rcases hx with rfl | rfl
          · exact ⟨q0, q1⟩
          · exact ⟨h5, h6⟩
        · simp only [List.mem_cons, List.not_mem_nil, or_false] at hx
          rcases hx with rfl | rfl
          · exact ⟨h5, h6⟩
          · exact ⟨q0, q1⟩
theorem next_in {A : Au} (hok : AuOk A) {s : Sp} (hs : SpOk A s) {p : Int} (hp : InA A p) : InA A (nextI A s p) := atE_bd hok (step_fits hs hp)
def finI (A : Au) (p : Int) : Bool := A.final.getD p.toNat false
def nextL (A : Au) (l : List Sp) (p : Int) : Int := l.foldl (fun q s => nextI A s q) p
def DistL (A : Au) (l : List Sp) (p q : Int) : Prop := (∀ s ∈ l, s ∈ stepsA A) ∧ finI A (nextL A l p) ≠ finI A (nextL A l q)
def Dist (A : Au) (d : Nat) (p q : Int) : Prop := ∃ l : List Sp, l.length = d ∧ DistL A l p q
theorem dist_zero {A : Au} {p q : Int} : Dist A 0 p q ↔ finI A p ≠ finI A q := by
  constructor
  · rintro ⟨l, hl, h⟩
    obtain rfl := List.eq_nil_of_length_eq_zero hl
    exact h.2
  · exact fun h => ⟨[], rfl, ⟨fun s hs => (by cases hs), h⟩⟩
theorem dist_succ {A : Au} {d : Nat} {p q : Int} : Dist A (d + 1) p q ↔ ∃ s ∈ stepsA A, Dist A d (nextI A s p) (nextI A s q) := by
  constructor
  · rintro ⟨l, hl, h1, h2⟩
    cases l with
    | nil => cases hl
    | cons s l => exact ⟨s, h1 s (by simp), l, by simpa using hl, fun x hx => h1 x (by simp [hx]), h2⟩
  · rintro ⟨s, hs, l, hl, h1, h2⟩
    exact ⟨s :: l, by simp [hl], fun x hx => by
      rcases List.mem_cons.1 hx with rfl | hx
      · exact hs
      · exact h1 x hx, h2⟩
def Eqk (A : Au) (k : Nat) (p q : Int) : Prop := ∀ d, d ≤ k → ¬ Dist A d p q
def Eqv (A : Au) (p q : Int) : Prop := ∀ d, ¬ Dist A d p q
theorem dist_irr {A : Au} {d : Nat} {p : Int} : ¬ Dist A d p p := fun ⟨l, _, h⟩ => h.2 rfl
theorem dist_symm {A : Au} {d : Nat} {p q : Int} (h : Dist A d p q) : Dist A d q p := by
  obtain ⟨l, hl, h1, h2⟩ := h
  exact ⟨l, hl, h1, fun e => h2 e.symm⟩
theorem dist_split {A : Au} {d : Nat} {p q r : Int} (h : Dist A d p r) : Dist A d p q ∨ Dist A d q r := by
  obtain ⟨l, hl, h1, h2⟩ := h
  by_cases e : finI A (nextL A l p) = finI A (nextL A l q)
  · exact .inr ⟨l, hl, h1, fun e2 => h2 (e.trans e2)⟩
  · exact .inl ⟨l, hl, h1, e⟩
theorem Eqk.refl (A : Au) (k : Nat) (p : Int) : Eqk A k p p := fun d _ => dist_irr
theorem Eqk.symm {A : Au} {k : Nat} {p q : Int} (h : Eqk A k p q) : Eqk A k q p := fun d hd e => h d hd (dist_symm e)
theorem Eqk.trans {A : Au} {k : Nat} {p q r : Int} (h : Eqk A k p q) (h2 : Eqk A k q r) : Eqk A k p r := fun d hd e => (dist_split e).elim (h d hd) (h2 d hd)
theorem Eqv.refl (A : Au) (p : Int) : Eqv A p p := fun d => dist_irr
theorem Eqv.symm {A : Au} {p q : Int} (h : Eqv A p q) : Eqv A q p := fun d e => h d (dist_symm e)
theorem Eqv.trans {A : Au} {p q r : Int} (h : Eqv A p q) (h2 : Eqv A q r) : Eqv A p r := fun d e => (dist_split e).elim (h d) (h2 d)
theorem Eqv.next {A : Au} {p q : Int} (h : Eqv A p q) {s : Sp} (hs : s ∈ stepsA A) : Eqv A (nextI A s p) (nextI A s q) := fun d e => h (d + 1) (dist_succ.2 ⟨s, hs, e⟩)
theorem Eqv.fin {A : Au} {p q : Int} (h : Eqv A p q) : finI A p = finI A q := Classical.byContradiction fun e => h 0 (dist_zero.2 e)
theorem Eqk.succ {A : Au} {k : Nat} {p q : Int} : Eqk A (k + 1) p q ↔ finI A p = finI A q ∧ ∀ s ∈ stepsA A, Eqk A k (nextI A s p) (nextI A s q) := by
  constructor
  · refine fun h => ⟨Classical.byContradiction fun e => h 0 (by omega) (dist_zero.2 e), fun s hs d hd e => h (d + 1) (by omega) (dist_succ.2 ⟨s, hs, e⟩)⟩
  · rintro ⟨h1, h2⟩ d hd e
    cases d with
    | zero => exact dist_zero.1 e h1
    | succ d =>
      obtain ⟨s, hs, e⟩ := dist_succ.1 e
      exact h2 s hs d (by omega) e
theorem Eqk.mono {A : Au} {j k : Nat} {p q : Int} (hjk : j ≤ k) (h : Eqk A k p q) : Eqk A j p q := fun d hd => h d (by omega)
theorem eqv_of {A : Au} (R : Int → Int → Prop) (hf : ∀ p q, R p q → finI A p = finI A q) (hn : ∀ p q, R p q → ∀ s ∈ stepsA A, R (nextI A s p) (nextI A s q)) {p q : Int} (h : R p q) : Eqv A p q := by
  have key : ∀ d p q, R p q → ¬ Dist A d p q := by
    intro d
    induction d with
    | zero => exact fun p q h e => dist_zero.1 e (hf p q h)
    | succ d ih =>
      intro p q h e
      obtain ⟨s, hs, e⟩ := dist_succ.1 e
      exact ih _ _ (hn p q h s hs) e
  exact fun d => key d p q h
open Classical in
noncomputable def headsK (A : Au) (k : Nat) : List Nat := (List.range A.final.length).filter fun p => decide (∀ q : Nat, q < p → ¬ Eqk A k (q : Int) (p : Int))
open Classical in
theorem mem_headsK {A : Au} {k p : Nat} : p ∈ headsK A k ↔ p < A.final.length ∧ ∀ q : Nat, q < p → ¬ Eqk A k (q : Int) (p : Int) := by
  unfold headsK
  rw [List.mem_filter, List.mem_range, decide_eq_true_iff]
theorem headK_of (A : Au) (k : Nat) : ∀ p : Nat, p < A.final.length → ∃ h ∈ headsK A k, h ≤ p ∧ Eqk A k (h : Int) (p : Int) := by
  intro p
  induction p using Nat.strongRecOn with
  | _ p ih =>
    intro hp
    by_cases hh : p ∈ headsK A k
    · exact ⟨p, hh, Nat.le_refl _, Eqk.refl A k _⟩
    · have : ∃ q : Nat, q < p ∧ Eqk A k (q : Int) (p : Int) := Classical.byContradiction fun hn => hh (mem_headsK.2 ⟨hp, fun q hq e => hn ⟨q, hq, e⟩⟩)
      obtain ⟨q, hq, e⟩ := this
      obtain ⟨h, h1, h2, h3⟩ := ih q hq (by omega)
      exact ⟨h, h1, by omega, h3.trans e⟩
theorem heads_grow (A : Au) (k : Nat) : ∀ p ∈ headsK A k, p ∈ headsK A (k + 1) := fun p hp => by
  obtain ⟨h1, h2⟩ := mem_headsK.1 hp
  exact mem_headsK.2 ⟨h1, fun q hq e => h2 q hq (e.mono (by omega))⟩
open Classical in
theorem heads_stop {A : Au} {k : Nat} (h : (headsK A (k + 1)).length ≤ (headsK A k).length) {p q : Nat} (hp : p < A.final.length) (hq : q < A.final.length) (e : Eqk A k (p : Int) (q : Int)) : Eqk A (k + 1) (p : Int) (q : Int) := by
  have hsub : List.Sublist (headsK A k) (headsK A (k + 1)) := by
    unfold headsK
    have : ∀ l : List Nat, (∀ p ∈ l, p ∈ headsK A k → p ∈ headsK A (k + 1)) → List.Sublist (l.filter fun p => decide (∀ q : Nat, q < p → ¬ Eqk A k (q : Int) (p : Int))) (l.filter fun p => decide (∀ q : Nat, q < p → ¬ Eqk A (k + 1) (q : Int) (p : Int))) := by
      intro l
      induction l with
      | nil => intro _; exact List.Sublist.refl _
      | cons x xs ih =>
        intro hx
        have ihx := ih fun p hp => hx p (List.mem_cons_of_mem _ hp)
        rw [List.filter_cons, List.filter_cons]
        by_cases h1 : (∀ q : Nat, q < x → ¬ Eqk A k (q : Int) (x : Int))
        · have h2 : (∀ q : Nat, q < x → ¬ Eqk A (k + 1) (q : Int) (x : Int)) := fun q hq e => h1 q hq (e.mono (by omega))
          rw [if_pos (decide_eq_true h1), if_pos (decide_eq_true h2)]
          exact ihx.cons_cons _
        · rw [if_neg (by rw [decide_eq_true_iff]; exact h1)]
          split
          · exact ihx.cons _
          · exact ihx
    exact this _ fun p _ hp => heads_grow A k p hp
  have heq := hsub.eq_of_length_le h
  obtain ⟨h1, m1, _, e1⟩ := headK_of A (k + 1) p hp
  obtain ⟨h2, m2, _, e2⟩ := headK_of A (k + 1) q hq
  rw [← heq] at m1 m2
  have e3 : Eqk A k (h1 : Int) (h2 : Int) := ((e1.mono (by omega)).trans e).trans (e2.mono (by omega)).symm
  have : h1 = h2 := by
    rcases Nat.lt_trichotomy h1 h2 with hl | hl | hl
    · exact absurd e3 ((mem_headsK.1 m2).2 h1 hl)
    · exact hl
    · exact absurd e3.symm ((mem_headsK.1 m1).2 h2 hl)
  subst this
  exact e1.symm.trans e2
theorem stop_all {A : Au} (hok : AuOk A) {k : Nat} (h : ∀ p q : Nat, p < A.final.length → q < A.final.length → Eqk A k (p : Int) (q : Int) → Eqk A (k + 1) (p : Int) (q : Int)) : ∀ (m : Nat) (p q : Nat), p < A.final.length → q < A.final.length → Eqk A k (p : Int) (q : Int) → Eqk A (k + m) (p : Int) (q : Int) := by
  intro m
  induction m with
  | zero => exact fun p q _ _ e => e
  | succ m ih =>
    intro p q hp hq e
    have e1 := h p q hp hq e
    obtain ⟨f1, f2⟩ := Eqk.succ.1 e1
    refine Eqk.succ.2 ⟨f1, fun s hs => ?_⟩
    have hs' := mem_steps.1 hs
    obtain ⟨a0, a1⟩ := next_in hok hs' (p := (p : Int)) ⟨by omega, by omega⟩
    obtain ⟨b0, b1⟩ := next_in hok hs' (p := (q : Int)) ⟨by omega, by omega⟩
    have := f2 s hs
    obtain ⟨a, ha⟩ := Int.eq_ofNat_of_zero_le a0
    obtain ⟨b, hb⟩ := Int.eq_ofNat_of_zero_le b0
    rw [ha, hb] at this ⊢
    exact ih a b (by omega) (by omega) this
open Classical in
theorem moore {A : Au} (hok : AuOk A) {p q : Nat} (hp : p < A.final.length) (hq : q < A.final.length) (h : Eqk A (A.final.length - 1) (p : Int) (q : Int)) : Eqv A (p : Int) (q : Int) := by
  have hex : ∃ k, k ≤ A.final.length - 1 ∧ (headsK A (k + 1)).length ≤ (headsK A k).length := by
    refine Classical.byContradiction fun hn => ?_
    have hg : ∀ k, k ≤ A.final.length → k + 1 ≤ (headsK A k).length := by
      intro k
      induction k with
      | zero =>
        intro _
        exact List.length_pos_iff.2 fun e => by
          have : (0 : Nat) ∈ headsK A 0 := mem_headsK.2 ⟨hok.lo, fun q hq => absurd hq (Nat.not_lt_zero _)⟩
          rw [e] at this; cases this
      | succ k ih =>
        intro hk
        have h1 := ih (by omega)
        have h2 : ¬ (headsK A (k + 1)).length ≤ (headsK A k).length := fun e => hn ⟨k, by omega, e⟩
        omega
    have h1 := hg A.final.length (Nat.le_refl _)
    have h2 : (headsK A A.final.length).length ≤ A.final.length := by
      have := List.length_filter_le (fun p => decide (∀ q : Nat, q < p → ¬ Eqk A A.final.length (q : Int) (p : Int))) (List.range A.final.length)
      rw [List.length_range] at this
      exact this
    omega
  obtain ⟨k, hk, hle⟩ := hex
  have hst := stop_all hok (k := k) (fun p q hp hq e => heads_stop hle hp hq e)
  exact fun d e => hst d p q hp hq (h.mono hk) d (by omega) e
end Go.Mn

set_option linter.unusedSimpArgs false
set_option linter.unusedVariables false
set_option maxHeartbeats 400000
namespace Go.Mn
open Go Go.Rt
def farK (A : Au) : Nat → Int → Int → Int
  | 0, p, q => if finI A p ≠ finI A q then 0 else -1
  | r + 1, p, q => if 0 ≤ farK A r p q then farK A r p q else if (stepsA A).any (fun s => decide (farK A r (nextI A s p) (nextI A s q) = (r : Int))) then ((r + 1 : Nat) : Int) else -1
def MinD (A : Au) (d : Nat) (p q : Int) : Prop := Dist A d p q ∧ ∀ e, e < d → ¬ Dist A e p q
theorem MinD.uniq {A : Au} {d e : Nat} {p q : Int} (h : MinD A d p q) (h2 : MinD A e p q) : d = e := by
  rcases Nat.lt_trichotomy d e with hl | hl | hl
  · exact absurd h.1 (h2.2 d hl)
  · exact hl
  · exact absurd h2.1 (h.2 e hl)
theorem minD_of {A : Au} {p q : Int} : ∀ {k : Nat}, ¬ Eqk A k p q → ∃ d, d ≤ k ∧ MinD A d p q
  | 0, h => ⟨0, Nat.le_refl _, Classical.byContradiction fun hn => h fun d hd e => hn (by
      obtain rfl : d = 0 := by omega
      exact ⟨e, fun e he => absurd he (Nat.not_lt_zero _)⟩)⟩
  | k + 1, h => by
    by_cases h1 : Eqk A k p q
    · refine ⟨k + 1, Nat.le_refl _, Classical.byContradiction fun hn => h fun d hd e => ?_⟩
      by_cases hdk : d ≤ k
      · exact h1 d hdk e
      · obtain rfl : d = k + 1 := by omega
        exact hn ⟨e, fun e he => h1 e (by omega)⟩
    · obtain ⟨d, h2, h3⟩ := minD_of h1
      exact ⟨d, by omega, h3⟩
theorem minD_succ {A : Au} {d : Nat} {p q : Int} (h : Eqk A d p q) : MinD A (d + 1) p q ↔ ∃ s ∈ stepsA A, MinD A d (nextI A s p) (nextI A s q) := by
  constructor
  · rintro ⟨h1, h2⟩
    obtain ⟨s, hs, h3⟩ := dist_succ.1 h1
    exact ⟨s, hs, h3, fun e he h4 => h2 (e + 1) (by omega) (dist_succ.2 ⟨s, hs, h4⟩)⟩
  · rintro ⟨s, hs, h1, h2⟩
    exact ⟨dist_succ.2 ⟨s, hs, h1⟩, fun e he => h e (by omega)⟩
theorem far_spec (A : Au) : ∀ (r : Nat) (p q : Int), (∀ d : Nat, farK A r p q = (d : Int) ↔ d ≤ r ∧ MinD A d p q) ∧ (farK A r p q = -1 ↔ Eqk A r p q) ∧ -1 ≤ farK A r p q
  | 0, p, q => by
    rw [farK]
    by_cases h : finI A p ≠ finI A q
    · rw [if_pos h]
      refine ⟨fun d => ⟨fun e => ?_, fun ⟨h1, h2⟩ => by omega⟩, ⟨fun e => by omega, fun e => absurd (dist_zero.2 h) (e 0 (Nat.le_refl _))⟩, by omega⟩
      obtain rfl : d = 0 := by omega
      exact ⟨Nat.le_refl _, dist_zero.2 h, fun e he => absurd he (Nat.not_lt_zero _)⟩
    · rw [if_neg h]
      refine ⟨fun d => ⟨fun e => by omega, fun ⟨h1, h2⟩ => ?_⟩, ⟨fun _ d hd e => ?_, fun _ => rfl⟩, by omega⟩
      · obtain rfl : d = 0 := by omega
        exact absurd (dist_zero.1 h2.1) h
      · obtain rfl : d = 0 := by omega
        exact h (dist_zero.1 e)
  | r + 1, p, q => by
    obtain ⟨i1, i2, i3⟩ := far_spec A r p q
    rw [farK]
    by_cases h0 : 0 ≤ farK A r p q
    · rw [if_pos h0]
      obtain ⟨m, hm⟩ := Int.eq_ofNat_of_zero_le h0
      have hmin := (i1 m).1 hm
      refine ⟨fun d => ⟨fun e => ?_, fun ⟨h1, h2⟩ => ?_⟩, ⟨fun e => by omega, fun e => absurd hmin.2.1 (e m (by omega))⟩, by omega⟩
      · have := (i1 d).1 e
        exact ⟨by omega, this.2⟩
      · rw [hm, hmin.2.uniq h2]
    · rw [if_neg h0]
      have hE := i2.1 (by omega)
      have hiff := minD_succ hE
      by_cases h1 : (stepsA A).any (fun s => decide (farK A r (nextI A s p) (nextI A s q) = (r : Int))) = true
      · rw [if_pos h1]
        obtain ⟨s, hs, h2⟩ := List.any_eq_true.1 h1
        have h3 := ((far_spec A r _ _).1 r).1 (of_decide_eq_true h2)
        have hmin := hiff.2 ⟨s, hs, h3.2⟩
        refine ⟨fun d => ⟨fun e => ?_, fun ⟨h1, h2⟩ => ?_⟩, ⟨fun e => by omega, fun e => absurd hmin.1 (e (r + 1) (Nat.le_refl _))⟩, by omega⟩
        · obtain rfl : d = r + 1 := by omega
          exact ⟨Nat.le_refl _, hmin⟩
        · rw [hmin.uniq h2]
      · rw [if_neg h1]
        have hno : ¬ ∃ s ∈ stepsA A, MinD A r (nextI A s p) (nextI A s q) := fun ⟨s, hs, h2⟩ => h1 (List.any_eq_true.2 ⟨s, hs, decide_eq_true (((far_spec A r _ _).1 r).2 ⟨Nat.le_refl _, h2⟩)⟩)
        have hE2 : Eqk A (r + 1) p q := fun d hd e => by
          by_cases hdr : d ≤ r
          · exact hE d hdr e
          · obtain rfl : d = r + 1 := by omega
            exact hno (hiff.1 ⟨e, fun e he => hE e (by omega)⟩)
        refine ⟨fun d => ⟨fun e => by omega, fun ⟨h1, h2⟩ => absurd h2.1 (hE2 d h1)⟩, ⟨fun _ => hE2, fun _ => rfl⟩, by omega⟩
theorem far_pos {A : Au} {r d : Nat} {p q : Int} : farK A r p q = (d : Int) ↔ d ≤ r ∧ MinD A d p q := (far_spec A r p q).1 d
theorem far_neg {A : Au} {r : Nat} {p q : Int} : farK A r p q < 0 ↔ Eqk A r p q := by
  obtain ⟨h1, h2, h3⟩ := far_spec A r p q
  exact ⟨fun h => h2.1 (by omega), fun h => by have := h2.2 h; omega⟩
def farA (A : Au) (p q : Int) : Int := farK A A.final.length p q
theorem farA_neg {A : Au} (hok : AuOk A) {p q : Nat} (hp : p < A.final.length) (hq : q < A.final.length) : farA A (p : Int) (q : Int) < 0 ↔ Eqv A (p : Int) (q : Int) := by
  unfold farA
  rw [far_neg]
  exact ⟨fun h => moore hok hp hq (h.mono (by omega)), fun h d _ => h d⟩
def clsA (A : Au) (p : Nat) : Nat := ((List.range A.final.length).find? fun (q : Nat) => decide (farA A (p : Int) (q : Int) < 0)).getD 0
theorem find_first {n : Nat} {f : Nat → Bool} {p : Nat} (hp : p < n) (h : f p = true) : ∃ q, (List.range n).find? f = some q ∧ q ≤ p ∧ f q = true ∧ ∀ r, r < q → f r = false := by
  cases hf : (List.range n).find? f with
  | none =>
    have := List.find?_eq_none.1 hf p (List.mem_range.2 hp)
    rw [h] at this; exact absurd rfl this
  | some q =>
    rw [List.find?_range_eq_some] at hf
    obtain ⟨h1, h2, h3⟩ := hf
    have h3 : ∀ r, r < q → f r = false := fun r hr => by simpa using h3 r hr
    refine ⟨q, rfl, ?_, h1, h3⟩
    refine Classical.byContradiction fun hn => ?_
    rw [h3 p (by omega)] at h
    cases h
theorem cls_spec {A : Au} (hok : AuOk A) {p : Nat} (hp : p < A.final.length) : clsA A p ≤ p ∧ Eqv A (p : Int) (clsA A p : Int) ∧ ∀ r, r < clsA A p → ¬ Eqv A (p : Int) (r : Int) := by
  obtain ⟨q, h1, h2, h3, h4⟩ := find_first (f := fun (q : Nat) => decide (farA A (p : Int) (q : Int) < 0)) hp (decide_eq_true ((farA_neg hok hp hp).2 (Eqv.refl A _)))
  unfold clsA
  rw [h1, Option.getD_some]
  refine ⟨h2, (farA_neg hok hp (by omega)).1 (of_decide_eq_true h3), fun r hr e => ?_⟩
  have := h4 r hr
  rw [decide_eq_true ((farA_neg hok hp (by omega)).2 e)] at this
  cases this
theorem cls_eq {A : Au} (hok : AuOk A) {p q : Nat} (hp : p < A.final.length) (hq : q < A.final.length) : clsA A p = clsA A q ↔ Eqv A (p : Int) (q : Int) := by
  obtain ⟨p1, p2, p3⟩ := cls_spec hok hp
  obtain ⟨q1, q2, q3⟩ := cls_spec hok hq
  constructor
  · intro h
    rw [h] at p2
    exact p2.trans q2.symm
  · intro h
    rcases Nat.lt_trichotomy (clsA A p) (clsA A q) with hl | hl | hl
    · exact absurd (h.symm.trans p2) (q3 _ hl)
    · exact hl
    · exact absurd (h.trans q2) (p3 _ hl)
theorem cls_cls {A : Au} (hok : AuOk A) {p : Nat} (hp : p < A.final.length) : clsA A (clsA A p) = clsA A p := by
  obtain ⟨p1, p2, p3⟩ := cls_spec hok hp
  exact (cls_eq hok (by omega) hp).2 p2.symm
theorem cls_unique {A : Au} (hok : AuOk A) (h : Nat → Nat) (hle : ∀ p, p < A.final.length → h p ≤ p) (hhh : ∀ p, p < A.final.length → h (h p) = h p)
    (heq : ∀ p q, p < A.final.length → q < A.final.length → Eqv A (p : Int) (q : Int) → h p = h q)
    (hf : ∀ p q, p < A.final.length → q < A.final.length → h p = h q → finI A (p : Int) = finI A (q : Int))
    (hn : ∀ p q, p < A.final.length → q < A.final.length → h p = h q → ∀ s ∈ stepsA A, h (nextI A s (p : Int)).toNat = h (nextI A s (q : Int)).toNat) : ∀ p, p < A.final.length → h p = clsA A p := by
  have key : ∀ p q, p < A.final.length → q < A.final.length → h p = h q → Eqv A (p : Int) (q : Int) := fun p q hp hq e => by
    refine eqv_of (fun x y => InA A x ∧ InA A y ∧ h x.toNat = h y.toNat) ?_ ?_ ⟨⟨by omega, by omega⟩, ⟨by omega, by omega⟩, e⟩
    · rintro x y ⟨⟨x0, x1⟩, ⟨y0, y1⟩, e⟩
      have := hf x.toNat y.toNat (by omega) (by omega) e
      rwa [Int.toNat_of_nonneg x0, Int.toNat_of_nonneg y0] at this
    · rintro x y ⟨⟨x0, x1⟩, ⟨y0, y1⟩, e⟩ s hs
      have hs' := mem_steps.1 hs
      have := hn x.toNat y.toNat (by omega) (by omega) e s hs
      rw [Int.toNat_of_nonneg x0, Int.toNat_of_nonneg y0] at this
      exact ⟨next_in hok hs' ⟨x0, x1⟩, next_in hok hs' ⟨y0, y1⟩, this⟩
  intro p hp
  obtain ⟨p1, p2, p3⟩ := cls_spec hok hp
  have h1 : h p = h (clsA A p) := heq p _ hp (by omega) p2
  have h2 := hle _ (show clsA A p < A.final.length by omega)
  have h3 : Eqv A (p : Int) (h p : Int) := key p (h p) hp (by have := hle p hp; omega) (hhh p hp).symm
  rcases Nat.lt_or_ge (h p) (clsA A p) with hl | hl
  · exact absurd h3 (p3 _ hl)
  · omega
end Go.Mn
