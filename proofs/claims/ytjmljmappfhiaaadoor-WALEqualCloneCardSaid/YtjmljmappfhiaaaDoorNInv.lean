/- A region that draws its order, walked by what holds after each set of its operations. No condition. -/
import Derived.Test.YtjmljmappfhiaaaDoorND
set_option linter.unusedSimpArgs false
set_option linter.unusedVariables false
set_option maxHeartbeats 400000
namespace Go.PP
open Go Go.RowKit

theorem countP_less {p q : Nat → Bool} {i : Nat} (hp : p i = true) (hq : q i = false) (h : ∀ j, j ≠ i → q j = p j) : ∀ n, i < n → (List.range n).countP q < (List.range n).countP p
  | 0, hi => absurd hi (by omega)
  | n + 1, hi => by
    rw [List.range_succ, List.countP_append, List.countP_append]
    rcases Nat.lt_or_ge i n with e | e
    · have := countP_less hp hq h n e
      rw [List.countP_singleton, List.countP_singleton, h n (by omega)]
      omega
    · obtain rfl : i = n := by omega
      have : (List.range i).countP q = (List.range i).countP p := List.countP_congr fun x hx => by
        rw [List.mem_range] at hx
        rw [h x (by omega)]
      rw [this, List.countP_singleton, List.countP_singleton, hp, hq]
      simp

section
variable {P : Program} {md : Region.Mode} {ops : Array Oper} {Q : Exit → Act → World → Prop}

theorem wpAny_inv (Inv : Array Bool → Act → World → Prop)
    (hstep : ∀ (L : Array Bool) (a : Act) (w : World) (i : Nat), Inv L a w → i ∈ Region.ready md ops L → wpOp P ops Q i (fun a' w' => Inv (L.setIfInBounds i true) a' w') a w)
    (hend : ∀ (L : Array Bool) (a : Act) (w : World), Inv L a w → (∀ i, i < ops.size → L.getD i true = false → i ∉ Region.ready md ops L) → Region.ready md ops L = [] → Q .normal a w) :
    ∀ (fuel : Nat) (L : Array Bool) (a : Act) (w : World), L.size = ops.size → (List.range ops.size).countP (fun i => !L.getD i true) ≤ fuel → Inv L a w → wpAny P md ops Q fuel L a w
  | 0, L, a, w, hL, hc, h => by
    have hr : Region.ready md ops L = [] := by
      refine List.eq_nil_iff_forall_not_mem.2 fun i hi => ?_
      obtain ⟨h1, o, h2, _⟩ := mem_ready.1 hi
      have hlt := (Array.getElem?_eq_some_iff.1 h2).1
      have : (List.range ops.size).countP (fun i => !L.getD i true) = 0 := by omega
      rw [List.countP_eq_zero] at this
      exact this i (List.mem_range.2 hlt) (by rw [h1]; rfl)
    exact ⟨hr, hend L a w h (fun i _ _ hi => by rw [hr] at hi; cases hi) hr⟩
  | fuel + 1, L, a, w, hL, hc, h => by
    refine ⟨fun hr => hend L a w h (fun i _ _ hi => by rw [hr] at hi; cases hi) hr, fun i hi => ?_⟩
    obtain ⟨h1, o, h2, _⟩ := mem_ready.1 hi
    have hlt := (Array.getElem?_eq_some_iff.1 h2).1
    have hless := countP_less (p := fun i => !L.getD i true) (q := fun j => !(L.setIfInBounds i true).getD j true) (i := i) (by rw [h1]; rfl)
      (by simp [Array.getElem?_setIfInBounds, hL, hlt]) (fun j hj => by simp [Array.getElem?_setIfInBounds, show ¬ i = j from fun e => hj e.symm]) ops.size hlt
    exact wpOp_mono (fun a' w' h' => wpAny_inv Inv hstep hend fuel _ a' w' (by simpa using hL) (by omega) h') (hstep L a w i h hi)

/-- **A region that draws its order, by what holds after each set of its operations.** -/
theorem wp_region_inv {P : Program} {Q : Exit → Act → World → Prop} {id : Nat} {a : Act} {w : World} {l : List Oper} (Inv : Array Bool → Act → World → Prop) (hm : P.follows .mixedOrders = true)
    (hstep : ∀ (L : Array Bool) (a : Act) (w : World) (i : Nat), Inv L a w → i ∈ Region.ready .any l.toArray L → wpOp P l.toArray (NoPanic Q) i (fun a' w' => Inv (L.setIfInBounds i true) a' w') a w)
    (hend : ∀ (L : Array Bool) (a : Act) (w : World), Inv L a w → Region.ready .any l.toArray L = [] → NoPanic Q .normal a w)
    (h0 : Inv (Array.replicate l.length false) a w.drew) : (Code.region id l.toArray true).wp P Q a w := by
  refine wp_region_noPanic (wp_region_any hm (wpAny_inv Inv hstep (fun L a w h _ hr => hend L a w h hr) _ _ _ _ (by simp) ?_ (by simpa using h0)))
  refine Nat.le_trans List.countP_le_length (by simp)
end

theorem getD_set_eq {L : Array Bool} {n i : Nat} (hL : L.size = n) (hi : i < n) (j : Nat) (d : Bool) : (L.setIfInBounds i true).getD j d = if j = i then true else L.getD j d := by
  subst hL
  by_cases e : j = i
  · subst e; simp [Array.getElem?_setIfInBounds, hi]
  · simp [Array.getElem?_setIfInBounds, show ¬ i = j from fun h => e h.symm, e]

/-- What an operation waits for has come up. -/
theorem ready_after {md : Region.Mode} {ops : Array Oper} {L : Array Bool} {i : Nat} {o : Oper} (hi : i ∈ Region.ready md ops L) (ho : ops[i]? = some o) (k : Nat) (hk : (o.after.any fun e => Region.binds md e && e.on == k) = true) : L.getD k false = true := by
  obtain ⟨_, o', ho', haf⟩ := mem_ready.1 hi
  rw [ho] at ho'
  obtain rfl := Option.some.inj ho'
  rw [Array.any_eq_true] at hk
  obtain ⟨n, hn, h⟩ := hk
  rw [Bool.and_eq_true, beq_iff_eq] at h
  rw [← h.2]
  exact haf _ (Array.getElem_mem hn) h.1

/-- A new variable: n cells, not frozen. -/
def Var (n : Nat) (wb : World) (u : Value) (w : World) : Prop := ∃ b cs T, u = .pointer (some ⟨b, 0, none⟩) ∧ wb.heap.size ≤ b ∧ w.heap[b]? = some (.cells cs T (0, 0)) ∧ cs.size = n
/-- A variable holds a struct. -/
def Held (u v : Value) (w : World) : Prop := ∃ b cs, u = .pointer (some ⟨b, 0, none⟩) ∧ v = .agg cs ∧ ∀ (i : Nat) x, cs[i]? = some x → w.cell? ⟨b, i, none⟩ = some x

theorem Var.fix {n : Nat} {wb : World} {u : Value} {w w' : World} (h : Var n wb u w) (m : Fix w w') : Var n wb u w' := by
  obtain ⟨b, cs, T, h1, h2, h3, h4⟩ := h
  exact ⟨b, cs, T, h1, h2, m.heap h3 (by simp), h4⟩
theorem Held.fix {u v : Value} {w w' : World} (h : Held u v w) (m : Fix w w') : Held u v w' := by
  obtain ⟨b, cs, h1, h2, h3⟩ := h
  exact ⟨b, cs, h1, h2, fun i x hx => m.cell (h3 i x hx) (by simp)⟩
theorem Var.alloc (n : Nat) (wb w : World) (cs : Array Value) (T : Nat) (hz : wb.heap.size ≤ w.heap.size) (hn : cs.size = n) : Var n wb (.pointer (some ⟨w.heap.size, 0, none⟩)) (w.alloc (.cells cs T)) :=
  ⟨w.heap.size, cs, T, rfl, hz, heap_alloc_new w _, hn⟩
theorem Var.lt {n : Nat} {wb : World} {b : Nat} {w : World} (h : Var n wb (.pointer (some ⟨b, 0, none⟩)) w) : b < w.heap.size := by
  obtain ⟨b', cs, T, h1, h2, h3, h4⟩ := h
  simp only [Value.pointer.injEq, Option.some.injEq, Addr.mk.injEq, and_true] at h1
  subst h1
  exact (Array.getElem?_eq_some_iff.1 h3).1
theorem Var.cell {n : Nat} {wb : World} {b : Nat} {w : World} (h : Var n wb (.pointer (some ⟨b, 0, none⟩)) w) {i : Nat} (hi : i < n) : ∃ x, w.cell? ⟨b, i, none⟩ = some x ∧ w.frozen? ⟨b, i, none⟩ = false := by
  obtain ⟨b', cs, T, h1, h2, h3, h4⟩ := h
  simp only [Value.pointer.injEq, Option.some.injEq, Addr.mk.injEq, and_true] at h1
  subst h1
  exact ⟨cs[i]'(by omega), by simp [World.cell?, h3, h4, hi], by simp [World.frozen?, h3]⟩
theorem Var.set {n : Nat} {wb : World} {u : Value} {w : World} (h : Var n wb u w) (a : Addr) (x : Value) : Var n wb u (w.setCell a x) := by
  obtain ⟨b, cs, T, h1, h2, h3, h4⟩ := h
  by_cases e : a.block = b
  · obtain ⟨ab, ao, sp⟩ := a
    cases e
    by_cases hs : sp = none
    · subst hs
      exact ⟨ab, cs.setIfInBounds ao x, T, h1, h2, by simp [World.setCell, Array.getElem?_modify, h3], by simpa using h4⟩
    · refine ⟨ab, if sp.isNone then cs.setIfInBounds ao x else cs, T, h1, h2, ?_, by split <;> simpa using h4⟩
      cases sp with
      | none => exact absurd rfl hs
      | some q => simp [World.setCell, Array.getElem?_modify, h3]
  · exact ⟨b, cs, T, h1, h2, by rw [Below.heap_setCell _ _ _ _ (by simpa using fun q => e q.symm)]; exact h3, h4⟩

/-- What a result is, while it lies beside variables that are still to be written. -/
structure Stays (G : (Nat → Prop) → World → Value → Prop) : Prop where
  stay : ∀ {M S : Nat → Prop} {w w' : World} {v : Value}, G M w v → Mut S w w' → (∀ b, b < w.heap.size → S b → M b) → G M w' v
  mono : ∀ {M M' : Nat → Prop} {w : World} {v : Value}, G M w v → (∀ b, b < w.heap.size → M' b → M b) → G M' w v

/-- The blocks of the variables that are there. -/
def Vars (L : Array Bool) (us : List (Nat × Value)) (b : Nat) : Prop := ∃ p ∈ us, L.getD p.1 false = true ∧ p.2 = .pointer (some ⟨b, 0, none⟩)

/-- The frame with values in some slots. -/
def putAll (a : Act) : List Nat → List Value → Act
  | k :: ks, v :: vs => putAll (a.put (some k) v) ks vs
  | _, _ => a

theorem wp_region_inv2 {P : Program} {Q : Exit → Act → World → Prop} {id : Nat} {a : Act} {w : World} {l : List Oper} (Inv : Act → Array Bool → Act → World → Prop) (hm : P.follows .mixedOrders = true)
    (hstep : ∀ (L : Array Bool) (a' : Act) (w : World) (i : Nat), Inv a L a' w → i ∈ Region.ready .any l.toArray L → wpOp P l.toArray (NoPanic Q) i (fun a'' w' => Inv a (L.setIfInBounds i true) a'' w') a' w)
    (hend : ∀ (L : Array Bool) (a' : Act) (w : World), Inv a L a' w → Region.ready .any l.toArray L = [] → NoPanic Q .normal a' w)
    (h0 : Inv a (Array.replicate l.length false) a w.drew) : (Code.region id l.toArray true).wp P Q a w := wp_region_inv (Inv a) hm hstep hend h0

theorem not_listed {md : Region.Mode} {ops : Array Oper} {L : Array Bool} (dc : DownClosed md ops L) {i j : Nat} {o : Oper} (hi : i ∈ Region.ready md ops L) (ho : ops[j]? = some o) (hk : (o.after.any fun e => Region.binds md e && e.on == i) = true) : L.getD j false = false := by
  cases hj : L.getD j false with
  | false => rfl
  | true =>
    rw [Array.any_eq_true] at hk
    obtain ⟨n, hn, h⟩ := hk
    rw [Bool.and_eq_true, beq_iff_eq] at h
    have := dc j o hj ho _ (Array.getElem_mem hn) h.1
    rw [h.2, getD_not_both (mem_ready.1 hi).1] at this
    cases this

theorem all_listed {md : Region.Mode} {ops : Array Oper} {L : Array Bool} (hr : Region.ready md ops L = []) (ht : ((List.range ops.size).all fun i => ((ops[i]?).map fun o => o.after.all fun e => decide (e.on < i)).getD true) = true) (hL : L.size = ops.size) :
    ∀ i, i < ops.size → L.getD i false = true := by
  intro i
  induction i using Nat.strongRecOn with
  | _ i ih =>
    intro hi
    refine Classical.byContradiction fun hn => ?_
    have hf : L.getD i true = false := by
      have hx : i < L.size := by omega
      simp [hx] at hn ⊢
      exact hn
    have ho : ops[i]? = some ops[i] := by simp
    have hm : i ∈ Region.ready md ops L := mem_ready.2 ⟨hf, _, ho, fun e he _ => by
      have := List.all_eq_true.1 ht i (List.mem_range.2 hi)
      rw [ho, Option.map_some, Option.getD_some, Array.all_eq_true] at this
      obtain ⟨n, hn', rfl⟩ := Array.mem_iff_getElem.1 he
      have hlt := of_decide_eq_true (this n hn')
      exact ih _ hlt (by omega)⟩
    rw [hr] at hm; cases hm

theorem wp_region_inv3 {P : Program} {Q : Exit → Act → World → Prop} {id : Nat} {a : Act} {w : World} {l : List Oper} (Inv : Act → Array Bool → Act → World → Prop) (hm : P.follows .mixedOrders = true)
    (hstep : ∀ (L : Array Bool) (a' : Act) (w : World) (i : Nat), Inv a L a' w → DownClosed .any l.toArray L → i ∈ Region.ready .any l.toArray L → wpOp P l.toArray (NoPanic Q) i (fun a'' w' => Inv a (L.setIfInBounds i true) a'' w') a' w)
    (hend : ∀ (L : Array Bool) (a' : Act) (w : World), Inv a L a' w → Region.ready .any l.toArray L = [] → NoPanic Q .normal a' w)
    (h0 : Inv a (Array.replicate l.length false) a w.drew) : (Code.region id l.toArray true).wp P Q a w :=
  wp_region_inv (fun L a' w => Inv a L a' w ∧ DownClosed .any l.toArray L) hm (fun L a' w i h hi => wpOp_mono (fun a'' w' h' => ⟨h', h.2.set hi⟩) (hstep L a' w i h.1 h.2 hi)) (fun L a' w h hr => hend L a' w h.1 hr) ⟨h0, DownClosed.none _ _ _⟩

/-- Two variables are declared and given the results of two calls: what holds after each set of the operations
load, call, load, call, alloc, alloc, store, store. -/
structure M2 (wb : World) (slots : List Nat) (A1 A2 : Value) (G1 G2 : (Nat → Prop) → World → Value → Prop) (n1 n2 : Nat) (a0 : Act) (L : Array Bool) (a : Act) (w : World) (u1 u2 u3 u4 u5 u6 : Value) : Prop where
  act : a = putAll a0 slots [u1, u2, u3, u4, u5, u6]
  size : L.size = 8
  fix : Fix wb w
  h0 : L.getD 0 false = true → u1 = A1
  h1 : L.getD 1 false = true → G1 (Vars L [(4, u5), (5, u6)]) w u2
  h2 : L.getD 2 false = true → u3 = A2
  h3 : L.getD 3 false = true → G2 (Vars L [(4, u5), (5, u6)]) w u4
  h4 : L.getD 4 false = true → Var n1 wb u5 w
  h5 : L.getD 5 false = true → Var n2 wb u6 w
  ne : L.getD 4 false = true → L.getD 5 false = true → u5 ≠ u6
  h6 : L.getD 6 false = true → Held u5 u2 w
  h7 : L.getD 7 false = true → Held u6 u4 w
  ord : L.getD 7 false = true → L.getD 6 false = true

section
variable {wb : World} {slots : List Nat} {A1 A2 : Value} {G1 G2 : (Nat → Prop) → World → Value → Prop} {n1 n2 : Nat} {a0 : Act} {L : Array Bool} {a : Act} {w w' : World} {u1 u2 u3 u4 u5 u6 : Value}

theorem vars_same {i : Nat} (hL : L.size = 8) (hi : i < 8) (h4 : i ≠ 4) (h5 : i ≠ 5) {x y : Value} {b : Nat} (h : Vars (L.setIfInBounds i true) [(4, x), (5, y)] b) : Vars L [(4, x), (5, y)] b := by
  obtain ⟨p, hp, h1, h2⟩ := h
  refine ⟨p, hp, ?_, h2⟩
  simp at hp
  rw [getD_set_eq hL hi] at h1
  rcases hp with rfl | rfl
  · simpa [show ¬ (4 : Nat) = i from fun e => h4 e.symm] using h1
  · simpa [show ¬ (5 : Nat) = i from fun e => h5 e.symm] using h1

/-- The first operand has been read. -/
theorem M2.s0 (h : M2 wb slots A1 A2 G1 G2 n1 n2 a0 L a w u1 u2 u3 u4 u5 u6) (g1 : Stays G1) (g2 : Stays G2) {a' : Act} (ha : a' = putAll a0 slots [A1, u2, u3, u4, u5, u6]) (hn : L.getD 1 false = false) :
    M2 wb slots A1 A2 G1 G2 n1 n2 a0 (L.setIfInBounds 0 true) a' w A1 u2 u3 u4 u5 u6 := by
  have e := fun j => getD_set_eq (L := L) (n := 8) (i := 0) h.size (by omega) j false
  refine ⟨ha, by simpa using h.size, h.fix, fun _ => rfl, fun q => ?_, fun q => h.h2 ?_, fun q => ?_, fun q => h.h4 ?_, fun q => h.h5 ?_, fun q q' => h.ne ?_ ?_, fun q => h.h6 ?_, fun q => h.h7 ?_, fun q => ?_⟩
  · rw [e] at q; simp [hn] at q
  · rw [e] at q; simpa using q
  · rw [e] at q; exact g2.mono (h.h3 (by simpa using q)) (fun b _ hb => vars_same h.size (by omega) (by omega) (by omega) hb)
  · rw [e] at q; simpa using q
  · rw [e] at q; simpa using q
  · rw [e] at q; simpa using q
  · rw [e] at q'; simpa using q'
  · rw [e] at q; simpa using q
  · rw [e] at q; simpa using q
  · rw [e] at q ⊢; simpa using h.ord (by simpa using q)
theorem M2.s2 (h : M2 wb slots A1 A2 G1 G2 n1 n2 a0 L a w u1 u2 u3 u4 u5 u6) (g1 : Stays G1) (g2 : Stays G2) {a' : Act} (ha : a' = putAll a0 slots [u1, u2, A2, u4, u5, u6]) :
    M2 wb slots A1 A2 G1 G2 n1 n2 a0 (L.setIfInBounds 2 true) a' w u1 u2 A2 u4 u5 u6 := by
  have e := fun j => getD_set_eq (L := L) (n := 8) (i := 2) h.size (by omega) j false
  refine ⟨ha, by simpa using h.size, h.fix, fun q => h.h0 ?_, fun q => ?_, fun q => rfl, fun q => ?_, fun q => h.h4 ?_, fun q => h.h5 ?_, fun q q' => h.ne ?_ ?_, fun q => h.h6 ?_, fun q => h.h7 ?_, fun q => ?_⟩
  · rw [e] at q; simpa using q
  · rw [e] at q; exact g1.mono (h.h1 (by simpa using q)) (fun b _ hb => vars_same h.size (by omega) (by omega) (by omega) hb)
  · rw [e] at q; exact g2.mono (h.h3 (by simpa using q)) (fun b _ hb => vars_same h.size (by omega) (by omega) (by omega) hb)
  · rw [e] at q; simpa using q
  · rw [e] at q; simpa using q
  · rw [e] at q; simpa using q
  · rw [e] at q'; simpa using q'
  · rw [e] at q; simpa using q
  · rw [e] at q; simpa using q
  · rw [e] at q ⊢; simpa using h.ord (by simpa using q)
theorem vars_lt (h : M2 wb slots A1 A2 G1 G2 n1 n2 a0 L a w u1 u2 u3 u4 u5 u6) {b : Nat} (hb : Vars L [(4, u5), (5, u6)] b) : b < w.heap.size := by
  obtain ⟨p, hp, q1, q2⟩ := hb
  simp at hp
  rcases hp with rfl | rfl
  · have := h.h4 q1
    rw [show u5 = _ from q2] at this; exact this.lt
  · have := h.h5 q1
    rw [show u6 = _ from q2] at this; exact this.lt
/-- The first call has returned. -/
theorem M2.s1 (h : M2 wb slots A1 A2 G1 G2 n1 n2 a0 L a w u1 u2 u3 u4 u5 u6) (g1 : Stays G1) (g2 : Stays G2) (m : Fix w w') {v : Value} (hv : G1 (fun b => b < w.heap.size) w' v) {a' : Act} (ha : a' = putAll a0 slots [u1, v, u3, u4, u5, u6]) (hn : L.getD 6 false = false) :
    M2 wb slots A1 A2 G1 G2 n1 n2 a0 (L.setIfInBounds 1 true) a' w' u1 v u3 u4 u5 u6 := by
  have e := fun j => getD_set_eq (L := L) (n := 8) (i := 1) h.size (by omega) j false
  refine ⟨ha, by simpa using h.size, h.fix.trans m, fun q => h.h0 ?_, fun q => ?_, fun q => h.h2 ?_, fun q => ?_, fun q => (h.h4 ?_).fix m, fun q => (h.h5 ?_).fix m, fun q q' => h.ne ?_ ?_, fun q => ?_, fun q => (h.h7 ?_).fix m, fun q => ?_⟩
  · rw [e] at q; simpa using q
  · exact g1.mono hv (fun b _ hb => vars_lt h (vars_same h.size (by omega) (by omega) (by omega) hb))
  · rw [e] at q; simpa using q
  · rw [e] at q; exact g2.mono (g2.stay (h.h3 (by simpa using q)) m (by simp)) (fun b _ hb => vars_same h.size (by omega) (by omega) (by omega) hb)
  · rw [e] at q; simpa using q
  · rw [e] at q; simpa using q
  · rw [e] at q; simpa using q
  · rw [e] at q'; simpa using q'
  · rw [e] at q; simp [hn] at q
  · rw [e] at q; simpa using q
  · rw [e] at q ⊢; simpa using h.ord (by simpa using q)
/-- The second call has returned. -/
theorem M2.s3 (h : M2 wb slots A1 A2 G1 G2 n1 n2 a0 L a w u1 u2 u3 u4 u5 u6) (g1 : Stays G1) (g2 : Stays G2) (m : Fix w w') {v : Value} (hv : G2 (fun b => b < w.heap.size) w' v) {a' : Act} (ha : a' = putAll a0 slots [u1, u2, u3, v, u5, u6]) (hn : L.getD 7 false = false) :
    M2 wb slots A1 A2 G1 G2 n1 n2 a0 (L.setIfInBounds 3 true) a' w' u1 u2 u3 v u5 u6 := by
  have e := fun j => getD_set_eq (L := L) (n := 8) (i := 3) h.size (by omega) j false
  refine ⟨ha, by simpa using h.size, h.fix.trans m, fun q => h.h0 ?_, fun q => ?_, fun q => h.h2 ?_, fun q => ?_, fun q => (h.h4 ?_).fix m, fun q => (h.h5 ?_).fix m, fun q q' => h.ne ?_ ?_, fun q => (h.h6 ?_).fix m, fun q => ?_, fun q => ?_⟩
  · rw [e] at q; simpa using q
  · rw [e] at q; exact g1.mono (g1.stay (h.h1 (by simpa using q)) m (by simp)) (fun b _ hb => vars_same h.size (by omega) (by omega) (by omega) hb)
  · rw [e] at q; simpa using q
  · exact g2.mono hv (fun b _ hb => vars_lt h (vars_same h.size (by omega) (by omega) (by omega) hb))
  · rw [e] at q; simpa using q
  · rw [e] at q; simpa using q
  · rw [e] at q; simpa using q
  · rw [e] at q'; simpa using q'
  · rw [e] at q; simpa using q
  · rw [e] at q; simp [hn] at q
  · rw [e] at q ⊢; simpa using h.ord (by simpa using q)
/-- The first variable has been made. -/
theorem M2.s4 (h : M2 wb slots A1 A2 G1 G2 n1 n2 a0 L a w u1 u2 u3 u4 u5 u6) (g1 : Stays G1) (g2 : Stays G2) (cs : Array Value) (T : Nat) (hc : cs.size = n1) {a' : Act} (ha : a' = putAll a0 slots [u1, u2, u3, u4, .pointer (some ⟨w.heap.size, 0, none⟩), u6]) (hn : L.getD 6 false = false) (hn0 : L.getD 4 false = false) :
    M2 wb slots A1 A2 G1 G2 n1 n2 a0 (L.setIfInBounds 4 true) a' (w.alloc (.cells cs T)) u1 u2 u3 u4 (.pointer (some ⟨w.heap.size, 0, none⟩)) u6 := by
  have e := fun j => getD_set_eq (L := L) (n := 8) (i := 4) h.size (by omega) j false
  have m : Fix w (w.alloc (.cells cs T)) := (Mut.refl _ w).alloc _
  have hv : ∀ b, b < w.heap.size → Vars (L.setIfInBounds 4 true) [(4, .pointer (some ⟨w.heap.size, 0, none⟩)), (5, u6)] b → Vars L [(4, u5), (5, u6)] b := fun b hlt hb => by
    obtain ⟨p, hp, q1, q2⟩ := hb
    simp at hp
    rcases hp with rfl | rfl
    · simp at q2; first | omega | skip
    · exact ⟨(5, u6), by simp, by rw [e] at q1; simpa using q1, q2⟩
  have w6 : L.getD 7 false = true → False := fun q => by have := h.ord q; rw [hn] at this; cases this
  refine ⟨ha, by simpa using h.size, h.fix.trans m, fun q => h.h0 ?_, fun q => ?_, fun q => h.h2 ?_, fun q => ?_, fun q => Var.alloc _ _ _ _ _ h.fix.size hc, fun q => (h.h5 ?_).fix m, fun q q' => ?_, fun q => ?_, fun q => (h.h7 ?_).fix m, fun q => ?_⟩
  · rw [e] at q; simpa using q
  · rw [e] at q; exact g1.stay (g1.mono (h.h1 (by simpa using q)) hv) m (by simp)
  · rw [e] at q; simpa using q
  · rw [e] at q; exact g2.stay (g2.mono (h.h3 (by simpa using q)) hv) m (by simp)
  · rw [e] at q; simpa using q
  · intro he
    rw [e] at q'
    have h5 := h.h5 (by simpa using q')
    rw [← he] at h5
    have := h5.lt; omega
  · rw [e] at q; simp [hn] at q
  · rw [e] at q; simpa using q
  · rw [e] at q ⊢; exact absurd (by simpa using q) w6
theorem M2.s5 (h : M2 wb slots A1 A2 G1 G2 n1 n2 a0 L a w u1 u2 u3 u4 u5 u6) (g1 : Stays G1) (g2 : Stays G2) (cs : Array Value) (T : Nat) (hc : cs.size = n2) {a' : Act} (ha : a' = putAll a0 slots [u1, u2, u3, u4, u5, .pointer (some ⟨w.heap.size, 0, none⟩)]) (hn : L.getD 6 false = false) (hn0 : L.getD 5 false = false) :
    M2 wb slots A1 A2 G1 G2 n1 n2 a0 (L.setIfInBounds 5 true) a' (w.alloc (.cells cs T)) u1 u2 u3 u4 u5 (.pointer (some ⟨w.heap.size, 0, none⟩)) := by
  have e := fun j => getD_set_eq (L := L) (n := 8) (i := 5) h.size (by omega) j false
  have m : Fix w (w.alloc (.cells cs T)) := (Mut.refl _ w).alloc _
  have hv : ∀ b, b < w.heap.size → Vars (L.setIfInBounds 5 true) [(4, u5), (5, .pointer (some ⟨w.heap.size, 0, none⟩))] b → Vars L [(4, u5), (5, u6)] b := fun b hlt hb => by
    obtain ⟨p, hp, q1, q2⟩ := hb
    simp at hp
    rcases hp with rfl | rfl
    · exact ⟨(4, u5), by simp, by rw [e] at q1; simpa using q1, q2⟩
    · simp at q2; first | omega | skip
  have w6 : L.getD 7 false = true → False := fun q => by have := h.ord q; rw [hn] at this; cases this
  refine ⟨ha, by simpa using h.size, h.fix.trans m, fun q => h.h0 ?_, fun q => ?_, fun q => h.h2 ?_, fun q => ?_, fun q => (h.h4 ?_).fix m, fun q => Var.alloc _ _ _ _ _ h.fix.size hc, fun q q' => ?_, fun q => (h.h6 ?_).fix m, fun q => ?_, fun q => ?_⟩
  · rw [e] at q; simpa using q
  · rw [e] at q; exact g1.stay (g1.mono (h.h1 (by simpa using q)) hv) m (by simp)
  · rw [e] at q; simpa using q
  · rw [e] at q; exact g2.stay (g2.mono (h.h3 (by simpa using q)) hv) m (by simp)
  · rw [e] at q; simpa using q
  · intro he
    rw [e] at q
    have h4 := h.h4 (by simpa using q)
    rw [he] at h4
    have := h4.lt; omega
  · rw [e] at q; simpa using q
  · rw [e] at q; exact absurd (by simpa using q) w6
  · rw [e] at q ⊢; exact absurd (by simpa using q) w6

/-- The first variable has been written. -/
theorem M2.s6 (h : M2 wb slots A1 A2 G1 G2 n1 n2 a0 L a w u1 u2 u3 u4 u5 u6) (g1 : Stays G1) (g2 : Stays G2) (q4 : L.getD 4 false = true) (m : Mut (fun b => u5 = .pointer (some ⟨b, 0, none⟩)) w w') (v5 : Var n1 wb u5 w') (v6 : L.getD 5 false = true → Var n2 wb u6 w') (hh : Held u5 u2 w') (hn : L.getD 7 false = false)
    {a' : Act} (ha : a' = putAll a0 slots [u1, u2, u3, u4, u5, u6]) : M2 wb slots A1 A2 G1 G2 n1 n2 a0 (L.setIfInBounds 6 true) a' w' u1 u2 u3 u4 u5 u6 := by
  have e := fun j => getD_set_eq (L := L) (n := 8) (i := 6) h.size (by omega) j false
  have hS : ∀ b, b < w.heap.size → u5 = .pointer (some ⟨b, 0, none⟩) → Vars L [(4, u5), (5, u6)] b := fun b _ hb => ⟨(4, u5), by simp, q4, hb⟩
  refine ⟨ha, by simpa using h.size, h.fix.trans' m (fun i hi he => ?_), fun q => h.h0 ?_, fun q => ?_, fun q => h.h2 ?_, fun q => ?_, fun q => v5, fun q => v6 ?_, fun q q' => h.ne ?_ ?_, fun q => hh, fun q => ?_, fun q => ?_⟩
  · rw [he] at v5
    obtain ⟨b, cs, T, h1, h2, _⟩ := v5
    simp only [Value.pointer.injEq, Option.some.injEq, Addr.mk.injEq, and_true] at h1
    omega
  · rw [e] at q; simpa using q
  · rw [e] at q; exact g1.mono (g1.stay (h.h1 (by simpa using q)) m hS) (fun b _ hb => vars_same h.size (by omega) (by omega) (by omega) hb)
  · rw [e] at q; simpa using q
  · rw [e] at q; exact g2.mono (g2.stay (h.h3 (by simpa using q)) m hS) (fun b _ hb => vars_same h.size (by omega) (by omega) (by omega) hb)
  · rw [e] at q; simpa using q
  · rw [e] at q; simpa using q
  · rw [e] at q'; simpa using q'
  · rw [e] at q; simp [hn] at q
  · rw [e] at q; simp [hn] at q
theorem M2.s7 (h : M2 wb slots A1 A2 G1 G2 n1 n2 a0 L a w u1 u2 u3 u4 u5 u6) (g1 : Stays G1) (g2 : Stays G2) (q4 : L.getD 4 false = true) (q5 : L.getD 5 false = true) (q6 : L.getD 6 false = true) (m : Mut (fun b => u6 = .pointer (some ⟨b, 0, none⟩)) w w') (v5 : Var n1 wb u5 w') (v6 : Var n2 wb u6 w') (hh : Held u6 u4 w')
    {a' : Act} (ha : a' = putAll a0 slots [u1, u2, u3, u4, u5, u6]) : M2 wb slots A1 A2 G1 G2 n1 n2 a0 (L.setIfInBounds 7 true) a' w' u1 u2 u3 u4 u5 u6 := by
  have e := fun j => getD_set_eq (L := L) (n := 8) (i := 7) h.size (by omega) j false
  have hS : ∀ b, b < w.heap.size → u6 = .pointer (some ⟨b, 0, none⟩) → Vars L [(4, u5), (5, u6)] b := fun b _ hb => ⟨(5, u6), by simp, q5, hb⟩
  have hne := h.ne q4 q5
  refine ⟨ha, by simpa using h.size, h.fix.trans' m (fun i hi he => ?_), fun q => h.h0 ?_, fun q => ?_, fun q => h.h2 ?_, fun q => ?_, fun q => v5, fun q => v6, fun q q' => hne, fun q => ?_, fun q => hh, fun q => ?_⟩
  · rw [he] at v6
    obtain ⟨b, cs, T, h1, h2, _⟩ := v6
    simp only [Value.pointer.injEq, Option.some.injEq, Addr.mk.injEq, and_true] at h1
    omega
  · rw [e] at q; simpa using q
  · rw [e] at q; exact g1.mono (g1.stay (h.h1 (by simpa using q)) m hS) (fun b _ hb => vars_same h.size (by omega) (by omega) (by omega) hb)
  · rw [e] at q; simpa using q
  · rw [e] at q; exact g2.mono (g2.stay (h.h3 (by simpa using q)) m hS) (fun b _ hb => vars_same h.size (by omega) (by omega) (by omega) hb)
  · obtain ⟨b, cs, h1, h2, h3⟩ := h.h6 q6
    exact ⟨b, cs, h1, h2, fun i x hx => m.cell (h3 i x hx) (fun he => hne (by rw [h1, he]))⟩
  · rw [e]; simpa using q6

theorem M2.start (hf : Fix wb w) {a' : Act} (ha : a' = putAll a0 slots [u1, u2, u3, u4, u5, u6]) : M2 wb slots A1 A2 G1 G2 n1 n2 a0 (Array.replicate 8 false) a' w u1 u2 u3 u4 u5 u6 := by
  have e : ∀ j, (Array.replicate 8 false).getD j false = false := fun j => getD_replicate_false 8 j
  refine ⟨ha, by simp, hf, ?_, ?_, ?_, ?_, ?_, ?_, ?_, ?_, ?_, ?_⟩ <;> (intro q; rw [e] at q; cases q)
end
end Go.PP
