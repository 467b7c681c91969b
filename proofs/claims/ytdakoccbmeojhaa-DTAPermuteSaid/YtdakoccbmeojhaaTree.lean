/- A region that draws its order, walked by a tree of the orders that are left. No condition. -/
import Derived.Test.YtdakoccbmeojhaaInv
set_option linter.unusedSimpArgs false
set_option linter.unusedVariables false
set_option maxHeartbeats 400000
namespace Go.PP
open Go Go.RowKit

/-- The orders that are left: these operations in this order; reads to be taken first; the one that is ready; the two that are ready. -/
inductive PT where
  | seq (T : List Nat)
  | take (A : List Nat) (p : PT)
  | one (b : Nat) (p : PT)
  | two (b c : Nat) (p q : PT)

def PT.size : PT → Nat
  | .seq T => T.length
  | .take A p => A.length + p.size
  | .one _ p => p.size + 1
  | .two _ _ p q => max p.size q.size + 1

section
variable {P : Program} {md : Region.Mode} {ops : Array Oper} {Q : Exit → Act → World → Prop} {C : World → Prop}

def treeOk (md : Region.Mode) (ops : Array Oper) (kp : List Nat) (ms : List Nat) : PT → Array Bool → Bool
  | .seq T, listed => planOk.seqOk md ops kp T listed
  | .take A p, listed => planOk.takesOk md ops kp ms A listed && treeOk md ops kp ms p (A.foldl (fun l i => l.setIfInBounds i true) listed)
  | .one b p, listed => (Region.ready md ops listed == [b]) && treeOk md ops kp ms p (listed.setIfInBounds b true)
  | .two b c p q, listed => (Region.ready md ops listed == [b, c]) && (treeOk md ops kp ms p (listed.setIfInBounds b true) && treeOk md ops kp ms q (listed.setIfInBounds c true))

def wpTree (P : Program) (ops : Array Oper) (Q : Exit → Act → World → Prop) (C : World → Prop) (kp : List Nat) : PT → Act → World → Prop
  | .seq T, a, w => wpList P ops Q (pickOps ops.toList T) a w
  | .take A p, a, w => C w ∧ wpQuiet P ops C (fun a' => wpTree P ops Q C kp p a' w) (pickOps ops.toList A) a
  | .one b p, a, w => wpList P ops (Exit.then (fun a2 w2 => (kp.contains b = true → C w2) ∧ wpTree P ops Q C kp p a2 w2) Q) (pickOps ops.toList [b]) a w
  | .two b c p q, a, w => wpList P ops (Exit.then (fun a2 w2 => (kp.contains b = true → C w2) ∧ wpTree P ops Q C kp p a2 w2) Q) (pickOps ops.toList [b]) a w ∧
      wpList P ops (Exit.then (fun a2 w2 => (kp.contains c = true → C w2) ∧ wpTree P ops Q C kp q a2 w2) Q) (pickOps ops.toList [c]) a w

theorem wpAnyK_of_tree {kp ms : List Nat} (hms : ∀ j i, Nat.testBit (ms.getD j 0) i = true → Waits md ops j i) (hsel : Region.noSelect ops = true) (hQ : ∀ c a a' w, Q (.panic c) a' w → Q (.panic c) a w) : ∀ (p : PT) (listed : Array Bool) (fuel : Nat) (a : Act) (w : World),
    DownClosed md ops listed → treeOk md ops kp ms p listed = true → p.size ≤ fuel → wpTree P ops Q C kp p a w → wpAnyK P md ops Q C kp.contains fuel listed a w
  | .seq T, listed, fuel, a, w, _, hok, hf, h => wpAnyK_seq T listed fuel a w hok hf h
  | .take A p, listed, fuel, a, w, inv, hok, hfuel, h => by
    simp only [treeOk, Bool.and_eq_true] at hok
    obtain ⟨ht, hok⟩ := hok
    obtain ⟨hC, h⟩ := h
    simp only [PT.size] at hfuel
    obtain ⟨f, rfl⟩ : ∃ f, fuel = f + A.length := ⟨fuel - A.length, by omega⟩
    exact wpAnyK_takes hms hsel hQ hC A listed f a inv ht h (fun a' inv' hK => wpAnyK_of_tree hms hsel hQ p _ f a' w inv' hok (by omega) hK)
  | .one b p, listed, fuel, a, w, inv, hok, hfuel, h => by
    simp only [treeOk, Bool.and_eq_true, beq_iff_eq] at hok
    obtain ⟨hr, hok⟩ := hok
    simp only [PT.size] at hfuel
    obtain ⟨f, rfl⟩ : ∃ f, fuel = f + 1 := ⟨fuel - 1, by omega⟩
    refine ⟨fun h0 => (by rw [hr] at h0; cases h0), fun i hi => ?_⟩
    rw [hr] at hi
    have hib : i = b := by simpa using hi
    subst hib
    have hrb : i ∈ Region.ready md ops listed := by rw [hr]; simp
    obtain ⟨_, ob, hob, _⟩ := mem_ready.1 hrb
    simp only [wpTree, pickOps_cons, Array.getElem?_toList, hob, pickOp_some, pickOps_nil] at h
    exact wpOp_mono (fun a2 w2 h3 => ⟨h3.1, wpAnyK_of_tree hms hsel hQ p _ f a2 w2 (inv.set hrb) hok (by omega) h3.2⟩) (wpOp_of_list hob h)
  | .two b c p q, listed, fuel, a, w, inv, hok, hfuel, h => by
    simp only [treeOk, Bool.and_eq_true, beq_iff_eq] at hok
    obtain ⟨hr, hok1, hok2⟩ := hok
    simp only [PT.size] at hfuel
    obtain ⟨f, rfl⟩ : ∃ f, fuel = f + 1 := ⟨fuel - 1, by omega⟩
    refine ⟨fun h0 => (by rw [hr] at h0; cases h0), fun i hi => ?_⟩
    have hrb := hi
    rw [hr] at hi
    obtain ⟨_, ob, hob, _⟩ := mem_ready.1 hrb
    simp only [wpTree, pickOps_cons, Array.getElem?_toList, pickOps_nil] at h
    have hib : i = b ∨ i = c := by simpa using hi
    rcases hib with e | e
    · subst e
      have h1 := h.1
      simp only [hob, pickOp_some] at h1
      exact wpOp_mono (fun a2 w2 h3 => ⟨h3.1, wpAnyK_of_tree hms hsel hQ p _ f a2 w2 (inv.set hrb) hok1 (by omega) h3.2⟩) (wpOp_of_list hob h1)
    · subst e
      have h1 := h.2
      simp only [hob, pickOp_some] at h1
      exact wpOp_mono (fun a2 w2 h3 => ⟨h3.1, wpAnyK_of_tree hms hsel hQ q _ f a2 w2 (inv.set hrb) hok2 (by omega) h3.2⟩) (wpOp_of_list hob h1)
end

section
variable {P : Program} {Q : Exit → Act → World → Prop}
/-- **A region that draws its order, by a tree of orders**; what holds behind it is R. -/
theorem wp_tree {id : Nat} {a : Act} {w : World} {l : List Oper} (S : World → Prop) (kp : List Nat) (p : PT) (R : Act → Act → World → Prop) (hm : P.follows .mixedOrders = true)
    (hok : (Region.noSelect l.toArray && treeOk .any l.toArray kp (masks .any l []) p (Array.replicate l.length false) && decide (p.size ≤ l.length)) = true)
    (h : wpTree P l.toArray (NoPanic fun e a' w => e = .normal ∧ R a a' w) (fun w' => ∃ x : Cls S, w' = x.w) kp p a w.drew)
    (hR : ∀ a' w, R a a' w → Q .normal a' w) : (Code.region id l.toArray true).wp P Q a w := by
  simp only [Bool.and_eq_true, decide_eq_true_eq] at hok
  refine Code.wp_mono (Q := fun e a' w => e = .normal ∧ R a a' w) (fun e a' w h => by obtain ⟨rfl, h⟩ := h; exact hR _ _ h) ?_
  refine wp_region_noPanic (wp_region_any hm (wpAny_of_K (C := fun w' => ∃ x : Cls S, w' = x.w) (kp := kp.contains) _ _ _ _ ?_))
  exact wpAnyK_of_tree (masks_spec l [] (by simp) (by simp)) hok.1.1 (fun _ _ _ _ h => h) p _ _ a _ (DownClosed.none _ _ _) (by simpa using hok.1.2) (by simpa using hok.2) h
end
end Go.PP
