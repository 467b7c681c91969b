/- A map with int elements that the call makes reads as a function. No condition. -/
import Derived.Test.YtdakoccbmeojhaaReg
import Derived.Maps.Own
import Derived.Maps.OwnSet
import Derived.Maps.OwnOps
import Derived.Maps.Views
set_option linter.unusedSimpArgs false
set_option linter.unusedVariables false
namespace Go.PP
open Go Go.RowKit Go.Maps

/-- How a Lean type writes the keys of a map type. -/
structure KeyEnc (P : Program) (k : TypeId) (κ : Type) where
  enc : κ → Value
  ok : κ → Prop
  lit : κ → Lit
  law : Keyed P k
  key : ∀ x, ok x → keyOf P k (enc x) = some (lit x)
  inj : ∀ x y, ok x → ok y → enc x = enc y → x = y

theorem KeyEnc.lit_ne {P : Program} {k : TypeId} {κ : Type} (E : KeyEnc P k κ) {x y : κ} (hx : E.ok x) (hy : E.ok y) (h : x ≠ y) : E.lit x ≠ E.lit y := fun e =>
  h (E.inj x y hx hy (E.law.inj (E.key x hx) (by rw [e]; exact E.key y hy)))

section
variable {P : Program} {k e : TypeId} {κ : Type} (E : KeyEnc P k κ)
/-- Block b is a map of at most n entries, from keys to ints, that reads as f. -/
def IntMap (e : TypeId) (w : World) (b n : Nat) (f : κ → Option Int) : Prop :=
  ∃ D : DataW Unit, w.ownsMap P k (plainElem P e) b n D ∧ ∀ x, E.ok x → (∀ z, D.atKey (E.lit x) z = match f x with | some c => .lit (.int .i64 c) | none => z) ∧ has D (E.lit x) = (f x).isSome

variable {E} {w : World} {b n : Nat} {f : κ → Option Int}

theorem IntMap.made (w : World) : IntMap E e (w.alloc (.map #[] 0)) w.heap.size 0 (fun _ => none) :=
  ⟨.map [], World.ownsMap_made w P k _, fun x _ => ⟨fun _ => rfl, rfl⟩⟩

theorem IntMap.lt (h : IntMap E e w b n f) : b < w.heap.size := by obtain ⟨D, h, _⟩ := h; exact h.lt

theorem IntMap.mut {w' : World} {S : Nat → Prop} (h : IntMap E e w b n f) (m : Mut S w w') (hb : ¬ S b) : IntMap E e w' b n f := by
  obtain ⟨D, ⟨es, clock, h1, h2⟩, h3⟩ := h
  exact ⟨D, ⟨es, clock, m.heap h1 hb, h2⟩, h3⟩

variable {t : TypeId} (ht : P.underlying t = some (.map k e)) (he : P.underlying e = some (.int .i64)) (hz : ∀ w, (zeroValue e).run P w = .ok (.int .i64 0) w)
include ht he hz

theorem IntMap.look (h : IntMap E e w b n f) {x : κ} (hx : E.ok x) {c : Int} (hc : f x = some c) : (Instr.lookup t (.map (some b)) (E.enc x) false).run P w = .ok (.int .i64 c) w := by
  obtain ⟨D, h1, h2⟩ := h
  obtain ⟨c', hr, hat, _⟩ := h1.lookup_int E.law ht he (hz w) (E.key x hx)
  rw [(h2 x hx).1, hc] at hat
  simp at hat
  rw [hr, hat]

theorem IntMap.look_ok (h : IntMap E e w b n f) {x : κ} (hx : E.ok x) {c : Int} (hc : f x = some c) : (Instr.lookup t (.map (some b)) (E.enc x) true).run P w = .ok (.tuple #[.int .i64 c, .bool true]) w := by
  obtain ⟨D, h1, h2⟩ := h
  obtain ⟨v, ps, hr, hv⟩ := h1.look_ok E.law ht (hz w) (plainElem_int he (by decide)) (E.key x hx)
  obtain ⟨c', rfl, hc', _⟩ := plainElem_int_inv he hv
  rw [(h2 x hx).1, hc] at hc'
  simp at hc'
  rw [hr, (h2 x hx).2, hc, hc'.1]; rfl

theorem IntMap.look_no (h : IntMap E e w b n f) {x : κ} (hx : E.ok x) (hc : f x = none) : (Instr.lookup t (.map (some b)) (E.enc x) true).run P w = .ok (.tuple #[.int .i64 0, .bool false]) w := by
  obtain ⟨D, h1, h2⟩ := h
  obtain ⟨v, ps, hr, hv⟩ := h1.look_ok E.law ht (hz w) (plainElem_int he (by decide)) (E.key x hx)
  obtain ⟨c', rfl, hc', _⟩ := plainElem_int_inv he hv
  rw [(h2 x hx).1, hc] at hc'
  simp at hc'
  rw [hr, (h2 x hx).2, hc, ← hc'.1]; rfl

omit hz in
theorem IntMap.put [DecidableEq κ] (h : IntMap E e w b n f) {x : κ} (hx : E.ok x) {c : Int} (hw : (Lit.int .i64 c).wf = true) (hn : n < maxLen) :
    ∃ w', (Instr.mapUpdate t (.map (some b)) (E.enc x) (.int .i64 c)).run P w = .ok () w' ∧ IntMap E e w' b (n + 1) (fun y => if y = x then some c else f y) ∧ Mut (· = b) w w' := by
  obtain ⟨D, h1, h2⟩ := h
  obtain ⟨w', hr, h3, hg⟩ := h1.update E.law ht hn (E.key x hx) (plainElem_int he hw)
  refine ⟨w', hr, ⟨_, h3, fun y hy => ?_⟩, ⟨hg.os, hg.tape, hg.output, hg.size, fun q hq hn => hg.block q hq (fun e => hn (by simpa using e))⟩⟩
  by_cases hxy : y = x
  · subst hxy
    simp only [if_true]
    exact ⟨fun z => atKey_put_same h1.isMap (E.law.key (E.key y hy)) _ _, has_put_same h1.isMap (E.law.key (E.key y hy)) _⟩
  · have hne := E.lit_ne hy hx hxy
    simp only [if_neg hxy]
    exact ⟨fun z => by rw [atKey_put_other hne]; exact (h2 y hy).1 z, by rw [has_put_other hne]; exact (h2 y hy).2⟩

omit hz in
theorem wpList_mapPut [DecidableEq κ] {ops : Array Oper} {rest : List Oper} {o : Oper} {a : Act} {Q : Exit → Act → World → Prop}
    (hg : o.guard = none) (m q v : Operand) (hop : o.op = Op.mapUpdate t m q v) (x : κ) (c : Int) (h : IntMap E e w b n f) (hm : a.eval m = .map (some b)) (hq : a.eval q = E.enc x) (hv : a.eval v = .int .i64 c)
    (hx : E.ok x) (hw : (Lit.int .i64 c).wf = true) (hn : n < maxLen)
    (hK : ∀ w', IntMap E e w' b (n + 1) (fun y => if y = x then some c else f y) → Mut (· = b) w w' → wpList P ops Q rest (a.put o.dst undef) w') : wpList P ops Q (o :: rest) a w := by
  refine wpList_plain hg fun K' hK' => ?_
  obtain ⟨w', hrun, r1, r2⟩ := h.put ht he hx hw hn
  unfold Oper.wp
  simp [execOp, hop, hm, hq, hv, hrun, Result.andThen]
  exact hK' _ _ (hK w' r1 r2)
end
end Go.PP
