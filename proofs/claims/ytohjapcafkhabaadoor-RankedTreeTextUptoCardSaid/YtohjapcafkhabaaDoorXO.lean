/- Arguments opened as data. No condition. -/
import Derived.Test.YtohjapcafkhabaaDoorXW
import Derived.Deep.Slices
import Derived.OpenShut
import Derived.SizedLaws
import Derived.ChangeMaps5

set_option linter.unusedSimpArgs false
set_option linter.unusedVariables false
set_option linter.unusedSectionVars false
set_option maxHeartbeats 400000
namespace Go.Dm
open Go Go.RowKit Go.PP Go.Deep
variable [GlobW]

/-- The cells of a datum of type t stand for f y, for some y that is in order. -/
def Opens (P : Program) (t : TypeId) (n : Nat) {α : Type} (f : α → List D) (ok : α → Prop) : Prop :=
  P.cellsOf t = n ∧ (∀ y, (f y).length = n) ∧ ∀ (H : Type) (enc : TypeId × Value → H) (w : World) (base : Nat) (held : Bool) (fuel : Nat) (cs : List Value) (x : DataW H × List MemPlace),
    DataW.trod enc P w base (fun _ => true) held fuel t cs = some x → (∀ m ∈ x.1.weights P t, m ≤ reachBytes) → ∃ y, RepL (fun _ => False) w none (f y) cs ∧ ok y
section
variable {P : Program} {t e : TypeId}
theorem Opens.int {k : IntKind} (ht : P.underlying t = some (.int k)) (hc : P.cellsOf t = 1) : Opens P t 1 (fun z : Int => [.flat (.int k z)]) (fun z => (Lit.int k z).wf = true) :=
  ⟨hc, fun _ => rfl, fun H enc w base held fuel cs x h _ => by
    obtain ⟨z, rfl, hx, hw⟩ := DataW.trod_int ht h
    exact ⟨z, by simp only [RepL, Rep]; exact ⟨_, _, rfl, rfl, rfl⟩, hw⟩⟩
theorem Opens.bool (ht : P.underlying t = some .bool) (hc : P.cellsOf t = 1) : Opens P t 1 (fun z : Bool => [.flat (.bool z)]) (fun _ => True) :=
  ⟨hc, fun _ => rfl, fun H enc w base held fuel cs x h _ => by
    obtain ⟨z, rfl, hx⟩ := DataW.trod_bool ht h
    exact ⟨z, by simp only [RepL, Rep]; exact ⟨_, _, rfl, rfl, rfl⟩, trivial⟩⟩
theorem Opens.str (ht : P.underlying t = some .string) (hc : P.cellsOf t = 1) : Opens P t 1 (fun l : List UInt8 => [.flat (.string ⟨l.toArray⟩)]) (fun l => l.length ≤ 140737488351232) :=
  ⟨hc, fun _ => rfl, fun H enc w base held fuel cs x h hw => by
    obtain ⟨s, rfl, rfl, hs⟩ := DataW.trod_string ht h
    refine ⟨s.data.toList, by simp only [RepL, Rep]; exact ⟨_, _, rfl, rfl, rfl⟩, ?_⟩
    have := hw s.data.toList.length (by simp [DataW.weights])
    have h2 : reachBytes = 140737488351232 := by decide
    omega⟩
theorem weightsAll_mem {H : Type} {e : TypeId} : ∀ {ds : List (DataW H)} {d : DataW H}, d ∈ ds → ∀ m ∈ d.weights P e, m ∈ DataW.weightsAll P e ds
  | d0 :: ds, d, h, m, hm => by
    simp only [DataW.weightsAll, List.mem_append]
    rcases List.mem_cons.1 h with rfl | h
    · exact .inl hm
    · exact .inr (weightsAll_mem h m hm)
theorem flatMap_at {α : Type} {n : Nat} (f : α → List D) (hf : ∀ y, (f y).length = n) : ∀ {ys : List α} {i k : Nat} {y : α}, ys[i]? = some y → k < n → (ys.flatMap f)[i * n + k]? = (f y)[k]?
  | [], i, k, y, h, hk => by simp at h
  | a :: ys, 0, k, y, h, hk => by
    simp at h; subst h
    rw [List.flatMap_cons, List.getElem?_append_left (by rw [hf]; omega)]
    simp
  | a :: ys, i + 1, k, y, h, hk => by
    rw [List.flatMap_cons, List.getElem?_append_right (by rw [hf, Nat.add_mul]; omega), hf, show (i + 1) * n + k - n = i * n + k by rw [Nat.add_mul]; omega]
    exact flatMap_at f hf (by simpa using h) hk
theorem flatMap_lenN {α : Type} {n : Nat} (f : α → List D) (hf : ∀ y, (f y).length = n) : ∀ ys : List α, (ys.flatMap f).length = ys.length * n
  | [] => by simp
  | a :: ys => by rw [List.flatMap_cons, List.length_append, hf, flatMap_lenN f hf ys, List.length_cons, Nat.add_mul]; omega
theorem Opens.slice {n bytes : Nat} {α : Type} {f : α → List D} {ok : α → Prop} (ht : P.underlying t = some (.slice e)) (hc : P.cellsOf t = 1) (hn : 0 < n) (hb : P.bytesOf e = bytes) (h : Opens P e n f ok) :
    Opens P t 1 (fun ys : List α => [.sl false n ys.length (ys.flatMap f)]) (fun ys => ys.length * bytes ≤ 140737488351232 ∧ ∀ y ∈ ys, ok y) :=
  ⟨hc, fun _ => rfl, fun H enc w base held fuel cs x hx hw => by
    obtain ⟨hcn, hfl, h⟩ := h
    rcases DataW.trod_slice ht hx with ⟨rfl, rfl⟩ | ⟨a, len, cap, elems, rest, m, rfl, rfl, rfl, hbl, hle, hmx, hel, hee, hsp, _⟩
    · exact ⟨[], by simp only [RepL, Rep]; exact ⟨_, _, rfl, ⟨none, 0, rfl, Nat.le_refl _, fun h => (by cases h), by simp, by simp, .inl (by simp)⟩, rfl⟩, by simp, by simp⟩
    · have hw0 : (elems.length + rest.length) * bytes ≤ reachBytes := by
        have := hw ((elems.length + rest.length) * bytes) (by simp [DataW.weights, ht, hb])
        exact this
      have h2 : reachBytes = 140737488351232 := by decide
      have each : ∀ i, i < len → ∃ y : α, (∀ k, k < n → ∃ u, w.cell? (a.add (i * n + k)) = some u ∧ ∀ d, (f y)[k]? = some d → Rep (fun _ => False) w none d u) ∧ ok y := by
        intro i hi
        have := hee i hi
        rw [hcn] at this
        have he : elems[i]? = some (elems[i]'(by omega)) := List.getElem?_eq_getElem (by omega)
        rw [he] at this
        cases hcs : w.cells? base (a.add (i * n)) n with
        | none => rw [hcs] at this; cases this
        | some cs' =>
          rw [hcs] at this
          simp only [Option.bind_some] at this
          obtain ⟨hlen, hcell⟩ := (World.cells?_some hcs).2
          obtain ⟨y, hy, hok⟩ := h H enc w base held m cs' _ this (fun q hq => hw q (by
            simp only [DataW.weights, ht, List.mem_cons, List.mem_append]
            refine .inr (.inl (weightsAll_mem (d := (elems[i]'(by omega)).1) (List.mem_map.2 ⟨_, List.getElem_mem _, rfl⟩) q hq))))
          refine ⟨y, fun k hk => ?_, hok⟩
          have hc1 := hcell k (by omega)
          rw [add_add] at hc1
          refine ⟨cs'[k]'(by omega), by rw [hc1]; exact List.getElem?_eq_getElem (by omega), fun d hd => ?_⟩
          obtain ⟨u, hu, hr⟩ := hy.get k hd
          rw [List.getElem?_eq_getElem (by omega)] at hu
          cases hu
          exact hr
      by_cases hl0 : len = 0
      · subst hl0
        exact ⟨[], by simp only [RepL, Rep]; exact ⟨_, _, rfl, ⟨some a, cap, rfl, Nat.zero_le _, fun h => (by cases h), by simp, by simp, .inl (by simp)⟩, rfl⟩, by simp, by simp⟩
      · obtain ⟨y0, _, _⟩ := each 0 (by omega)
        have : Inhabited α := ⟨y0⟩
        obtain ⟨g, hg⟩ := choose_lt each
        obtain ⟨b, off, spot⟩ := a
        have hspot : spot = none := by
          obtain ⟨u, hu, _⟩ := (hg 0 (by omega)).1 0 hn
          have := World.cell?_spot hu
          simpa [Addr.add] using this
        subst hspot
        refine ⟨(List.range len).map g, ?_, ?_, ?_⟩
        · simp only [RepL, Rep]
          refine ⟨_, _, rfl, ⟨some ⟨b, off, none⟩, cap, by simp, by simpa using hle, fun h => (by cases h), by rw [flatMap_lenN f hfl], by unfold maxLen at hmx; simp; omega, .inr ⟨b, off, rfl, id, RepC.of fun q d hd => ?_⟩⟩, rfl⟩
          have hq := (List.getElem?_eq_some_iff.1 hd).1
          rw [flatMap_lenN f hfl] at hq
          simp only [List.length_map, List.length_range] at hq
          obtain ⟨i, k, hi, hk, rfl⟩ : ∃ i k, i < len ∧ k < n ∧ q = i * n + k := ⟨q / n, q % n, Nat.div_lt_of_lt_mul (by rw [Nat.mul_comm]; exact hq), Nat.mod_lt _ hn, by rw [Nat.mul_comm]; exact (Nat.div_add_mod q n).symm⟩
          rw [flatMap_at f hfl (i := i) (k := k) (y := g i) (by simp [hi]) hk] at hd
          obtain ⟨u, hu, hr⟩ := (hg i hi).1 k hk
          refine ⟨u, ?_, hr d hd⟩
          rw [show (⟨b, off, none⟩ : Addr).add (i * n + k) = ⟨b, off + (i * n + k), none⟩ from by unfold Addr.add; split <;> simp_all] at hu
          exact hu
        · simp only [List.length_map, List.length_range]
          have : len * bytes ≤ (elems.length + rest.length) * bytes := Nat.mul_le_mul_right _ (by omega)
          omega
        · intro y hy
          obtain ⟨i, hi, rfl⟩ := List.mem_map.1 hy
          exact (hg i (by simpa using hi)).2⟩
theorem Opens.pair {f0 f1 : Field} {n0 n1 : Nat} {α β : Type} {g0 : α → List D} {g1 : β → List D} {ok0 : α → Prop} {ok1 : β → Prop} (ht : P.underlying t = some (.struct #[f0, f1])) (hc : P.cellsOf t = n0 + n1) (o0 : f0.offset = 0) (o1 : f1.offset = n0) (h0 : Opens P f0.type n0 g0 ok0) (h1 : Opens P f1.type n1 g1 ok1) :
    Opens P t (n0 + n1) (fun p : α × β => g0 p.1 ++ g1 p.2) (fun p => ok0 p.1 ∧ ok1 p.2) :=
  ⟨hc, fun p => by rw [List.length_append, h0.2.1, h1.2.1], fun H enc w base held fuel cs x h hw => by
    obtain ⟨xs, m, rfl, rfl, hl, hx, hi⟩ := DataW.trod_struct ht h
    rw [hc] at hl
    have hx2 : xs.length = 2 := hx
    have i0 := hi 0 f0 rfl
    have i1 := hi 1 f1 rfl
    rw [o0, h0.1, List.drop_zero, List.getElem?_eq_getElem (by omega)] at i0
    rw [o1, h1.1, List.getElem?_eq_getElem (by omega)] at i1
    have hwe : ∀ (j : Nat) (u : TypeId) (d : DataW H), [f0.type, f1.type][j]? = some u → (xs.map (·.1))[j]? = some d → ∀ q ∈ d.weights P u, q ≤ reachBytes := fun j u d h1 h2 q hq => hw q (by
      simp only [DataW.weights, ht]
      exact DataW.weights_mem_each (j := j) (t := u) (d := d) h1 h2 q hq)
    obtain ⟨y0, r0, k0⟩ := h0.2.2 H enc w base held m _ _ i0 (hwe 0 f0.type _ rfl (by simp [hx2]))
    obtain ⟨y1, r1, k1⟩ := h1.2.2 H enc w base held m _ _ i1 (hwe 1 f1.type _ rfl (by simp [hx2]))
    refine ⟨(y0, y1), ?_, k0, k1⟩
    have e1 : (cs.drop n0).take n1 = cs.drop n0 := List.take_of_length_le (by simp; omega)
    rw [e1] at r1
    have := RepL.append r0 r1
    rwa [List.take_append_drop] at this⟩
theorem Opens.triple {f0 f1 f2 : Field} {n0 n1 n2 : Nat} {α β γ : Type} {g0 : α → List D} {g1 : β → List D} {g2 : γ → List D} {ok0 : α → Prop} {ok1 : β → Prop} {ok2 : γ → Prop} (ht : P.underlying t = some (.struct #[f0, f1, f2])) (hc : P.cellsOf t = n0 + n1 + n2) (o0 : f0.offset = 0) (o1 : f1.offset = n0) (o2 : f2.offset = n0 + n1) (h0 : Opens P f0.type n0 g0 ok0) (h1 : Opens P f1.type n1 g1 ok1) (h2 : Opens P f2.type n2 g2 ok2) :
    Opens P t (n0 + n1 + n2) (fun p : α × β × γ => g0 p.1 ++ g1 p.2.1 ++ g2 p.2.2) (fun p => ok0 p.1 ∧ ok1 p.2.1 ∧ ok2 p.2.2) :=
  ⟨hc, fun p => by rw [List.length_append, List.length_append, h0.2.1, h1.2.1, h2.2.1], fun H enc w base held fuel cs x h hw => by
    obtain ⟨xs, m, rfl, rfl, hl, hx, hi⟩ := DataW.trod_struct ht h
    rw [hc] at hl
    have hx2 : xs.length = 3 := hx
    have i0 := hi 0 f0 rfl
    have i1 := hi 1 f1 rfl
    have i2 := hi 2 f2 rfl
    rw [o0, h0.1, List.drop_zero, List.getElem?_eq_getElem (by omega)] at i0
    rw [o1, h1.1, List.getElem?_eq_getElem (by omega)] at i1
    rw [o2, h2.1, List.getElem?_eq_getElem (by omega)] at i2
    have hwe : ∀ (j : Nat) (u : TypeId) (d : DataW H), [f0.type, f1.type, f2.type][j]? = some u → (xs.map (·.1))[j]? = some d → ∀ q ∈ d.weights P u, q ≤ reachBytes := fun j u d h1 h2 q hq => hw q (by
      simp only [DataW.weights, ht]
      exact DataW.weights_mem_each (j := j) (t := u) (d := d) h1 h2 q hq)
    obtain ⟨y0, r0, k0⟩ := h0.2.2 H enc w base held m _ _ i0 (hwe 0 f0.type _ rfl (by simp [hx2]))
    obtain ⟨y1, r1, k1⟩ := h1.2.2 H enc w base held m _ _ i1 (hwe 1 f1.type _ rfl (by simp [hx2]))
    obtain ⟨y2, r2, k2⟩ := h2.2.2 H enc w base held m _ _ i2 (hwe 2 f2.type _ rfl (by simp [hx2]))
    refine ⟨(y0, y1, y2), ?_, k0, k1, k2⟩
    have e1 : (cs.drop (n0 + n1)).take n2 = cs.drop (n0 + n1) := List.take_of_length_le (by simp; omega)
    rw [e1] at r2
    have := RepL.append (RepL.append r0 r1) r2
    have e : cs.take n0 ++ (cs.drop n0).take n1 ++ cs.drop (n0 + n1) = cs := by rw [← List.drop_drop, List.append_assoc, List.take_append_drop, List.take_append_drop]
    rwa [e] at this⟩
/-- Many elements of an array. -/
theorem RepL.flat {M : Nat → Prop} {w : World} {n : Nat} {α : Type} (f : α → List D) : ∀ (ys : List α) (cs : List Value), (∀ y, (f y).length = n) → cs.length = ys.length * n → (∀ (i : Nat) (y : α), ys[i]? = some y → RepL M w none (f y) ((cs.drop (i * n)).take n)) → RepL M w none (ys.flatMap f) cs
  | [], cs, hn, hl, h => by
    simp only [List.flatMap_nil, RepL]
    exact List.eq_nil_of_length_eq_zero (by simpa using hl)
  | y :: ys, cs, hn, hl, h => by
    rw [List.flatMap_cons]
    have h0 := h 0 y rfl
    rw [Nat.zero_mul, List.drop_zero] at h0
    have h1 := RepL.flat f ys (cs.drop n) hn (by simp [hl, Nat.add_mul]) (fun i z hz => by
      have := h (i + 1) z (by simpa using hz)
      rwa [Nat.add_mul, Nat.one_mul, Nat.add_comm, ← List.drop_drop] at this)
    have := RepL.append h0 h1
    rwa [List.take_append_drop] at this
theorem Opens.array {len n : Nat} {α : Type} {f : α → List D} {ok : α → Prop} (ht : P.underlying t = some (.array len e)) (hc : P.cellsOf t = len * n) (hlen : 0 < len) (h : Opens P e n f ok) :
    Opens P t (len * n) (fun ys : { ys : List α // ys.length = len } => ys.1.flatMap f) (fun ys => ∀ y ∈ ys.1, ok y) :=
  ⟨hc, fun ys => by rw [flatMap_lenN f h.2.1, ys.2], fun H enc w base held fuel cs x hx hw => by
    obtain ⟨xs, m, rfl, rfl, hl, hxl, hi⟩ := DataW.trod_array ht hx
    rw [hc] at hl
    rw [h.1] at hi
    have each : ∀ i, i < len → ∃ y : α, RepL (fun _ => False) w none (f y) ((cs.drop (i * n)).take n) ∧ ok y := fun i hil => by
      have := hi i hil
      rw [List.getElem?_eq_getElem (by omega)] at this
      exact h.2.2 H enc w base held m _ _ this (fun q hq => hw q (by
        simp only [DataW.weights, ht]
        exact weightsAll_mem (List.mem_map.2 ⟨_, List.getElem_mem _, rfl⟩) q hq))
    obtain ⟨y0, _, _⟩ := each 0 hlen
    have : Inhabited α := ⟨y0⟩
    obtain ⟨g, hg⟩ := choose_lt each
    refine ⟨⟨(List.range len).map g, by simp⟩, RepL.flat f _ cs h.2.1 (by simp [hl]) fun i y hy => ?_, fun y hy => ?_⟩
    · have hil : i < len := by
        have := (List.getElem?_eq_some_iff.1 hy).1
        simpa using this
      simp [hil] at hy
      subst hy
      exact (hg i hil).1
    · obtain ⟨i, hil, rfl⟩ := List.mem_map.1 hy
      exact (hg i (by simpa using hil)).2⟩
/-- A value of one cell. -/
theorem Opens.one {α : Type} {f : α → D} {ok : α → Prop} (h : Opens P t 1 (fun y => [f y]) ok) {H : Type} {enc : TypeId × Value → H} {w : World} {base : Nat} {held : Bool} {v : Value} {d : DataW H} {ps : List MemPlace} (hv : v.cells = #[v]) (ht : DataW.Trod enc P w base (fun _ => true) held t v d ps) (hw : ∀ m ∈ d.weights P t, m ≤ reachBytes) : ∃ y, Rep (fun _ => False) w none (f y) v ∧ ok y := by
  obtain ⟨fuel, hf⟩ := ht
  obtain ⟨y, hy, hk⟩ := h.2.2 H enc w base held fuel _ _ hf hw
  rw [hv] at hy
  simp only [RepL] at hy
  obtain ⟨u, us, he, hr, _⟩ := hy
  simp only [List.cons.injEq] at he
  rw [he.1]
  exact ⟨y, hr, hk⟩
/-- A struct or an array. -/
theorem Opens.agg {n : Nat} {α : Type} {f : α → List D} {ok : α → Prop} (h : Opens P t n f ok) {H : Type} {enc : TypeId × Value → H} {w : World} {base : Nat} {held : Bool} {cs : Array Value} {d : DataW H} {ps : List MemPlace} (ht : DataW.Trod enc P w base (fun _ => true) held t (.agg cs) d ps) (hw : ∀ m ∈ d.weights P t, m ≤ reachBytes) : ∃ y, Rep (fun _ => False) w none (.agg (f y)) (.agg cs) ∧ ok y := by
  obtain ⟨fuel, hf⟩ := ht
  obtain ⟨y, hy, hk⟩ := h.2.2 H enc w base held fuel _ _ hf hw
  refine ⟨y, ?_, hk⟩
  simp only [Rep]
  exact ⟨cs.toList, by simp, hy⟩
/-- What is laid in a table of numbers. -/
theorem cells_laid {H : Type} {enc : TypeId × Value → H} {w : World} {base fuel len : Nat} {spare : Nat → Bool} {held : Bool} {k : IntKind} {cs : List Value} {zs : List Int} {q : List MemPlace} (ht : P.underlying t = some (.array len e)) (he : P.underlying e = some (.int k)) (hc : P.cellsOf e = 1) (hct : P.cellsOf t = len)
    (h : DataW.trod enc P w base spare held fuel t cs = some (.agg (zs.map fun z => .lit (.int k z)), q)) : cs = zs.map fun z => .int k z := by
  obtain ⟨xs, m, _, ex, hl, hxl, hi⟩ := DataW.trod_array ht h
  have e3 : (xs.map (·.1)) = zs.map fun z => .lit (.int k z) := (DataW.agg.inj (Prod.mk.inj ex).1).symm
  have hzl : zs.length = len := by
    have := congrArg List.length e3
    simp at this; omega
  apply List.ext_getElem?
  intro i
  rcases Nat.lt_or_ge i len with hil | hil
  · have hE := hi i hil
    rw [hc, Nat.mul_one, List.getElem?_eq_getElem (by omega)] at hE
    obtain ⟨z, e1, e2, _⟩ := DataW.trod_int he hE
    have e4 : (xs.map (·.1))[i]? = (zs.map fun z => (DataW.lit (.int k z) : DataW H))[i]? := by rw [e3]
    rw [List.getElem?_map, List.getElem?_map, List.getElem?_eq_getElem (by omega : i < xs.length), List.getElem?_eq_getElem (by omega : i < zs.length), e2] at e4
    simp only [Option.map_some, Option.some.injEq, DataW.lit.injEq, Lit.int.injEq, true_and] at e4
    rw [List.getElem?_map, List.getElem?_eq_getElem (by omega : i < zs.length), ← e4]
    have h0 : ((cs.drop i).take 1)[0]? = some (.int k z) := by rw [e1]; rfl
    simpa using h0
  · rw [List.getElem?_eq_none (by omega), List.getElem?_eq_none (by simp; omega)]
end
/-- A law over data, for values. -/
theorem law_ret {P : Program} {k : FuncId} {args : List D} {v : Value} (h : DFun P k args (.flat v)) {w : World} (hg : GlW w) {vals : List Value} (hv : RepL (fun _ => False) w none args vals) : Calls P k vals.toArray w (fun e w' => e = .returned v ∧ Fix w w') :=
  (h.go (fun _ => False) w vals (fun _ h => h.elim) hv hg).mono fun e w' ⟨u, h1, h2, h3⟩ => ⟨by simp only [Rep] at h2; rw [h1, h2], h3⟩
theorem okWide_arrayD {P : Program} {w : World} {r : Reach} {base : Nat} {t n : Nat} {e : TypeId} {v : Value} (ht : P.underlying t = some (.array n e)) (h : Value.okWide P w r base t v) : ∃ cs, v = .agg cs ∧ cs.size = P.cellsOf t := by
  simp only [Value.okWide, ht] at h
  obtain ⟨cs, h1, h2, _⟩ := h
  exact ⟨cs, h1, h2⟩
end Go.Dm
