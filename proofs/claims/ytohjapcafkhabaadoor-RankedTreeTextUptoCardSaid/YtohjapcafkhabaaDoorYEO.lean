/- The arguments of the laws opened as data; the tables that are laid. No condition. -/
import Derived.Test.YtohjapcafkhabaaDoorYA
import Derived.Test.YtohjapcafkhabaaDoorYBK
import Derived.Test.YtohjapcafkhabaaDoorYTD
import Derived.Test.YtohjapcafkhabaaDoorXO
import Derived.Test.YtohjapcafkhabaaDoorRows
import Derived.LaidMore
import Derived.Lay
import Derived.LaidLaws

set_option linter.unusedSimpArgs false
set_option linter.unusedVariables false
set_option maxHeartbeats 1000000
set_option maxRecDepth 8000
namespace Go.Proofs.YtohjapcafkhabaaDoor
open Go Go.RowKit Go.PP Go.Dm Go.Rt
open Go.Proofs.YtohjapcafkhabaaDoor
theorem Opens.sub {P : Program} {t : TypeId} {n : Nat} {α β : Type} {f : α → List D} {g : β → List D} {ok : α → Prop} {ok2 : β → Prop} (h : Opens P t n f ok) (hl : ∀ y, (g y).length = n) (hs : ∀ y, ok y → ∃ z, g z = f y ∧ ok2 z) : Opens P t n g ok2 :=
  ⟨h.1, hl, fun H enc w base held fuel cs x hx hw => by
    obtain ⟨y, h1, h2⟩ := h.2.2 H enc w base held fuel cs x hx hw
    obtain ⟨z, h3, h4⟩ := hs y h2
    exact ⟨z, h3 ▸ h1, h4⟩⟩
theorem opInt : Opens Tryd.prog 3 1 (fun z : Int => [.flat (.int .i64 z)]) (fun z => (Lit.int .i64 z).wf = true) := Opens.int (P := Tryd.prog) TyInt.h (by kernel_rfl)
theorem opU8 : Opens Tryd.prog 5 1 (fun z : Int => [.flat (.int .u8 z)]) (fun z => (Lit.int .u8 z).wf = true) := Opens.int (P := Tryd.prog) TyInt.h (by kernel_rfl)
theorem u8_range {z : Int} (h : (Lit.int .u8 z).wf = true) : 0 ≤ z ∧ z ≤ 255 := by simpa [Lit.wf, IntKind.min, IntKind.max, IntKind.signed, IntKind.bits] using h
theorem i64_range {z : Int} (h : (Lit.int .i64 z).wf = true) : -9223372036854775808 ≤ z ∧ z ≤ 9223372036854775807 := by simpa [Lit.wf, IntKind.min, IntKind.max, IntKind.signed, IntKind.bits] using h
theorem opStr : Opens Tryd.prog 9 1 (fun l : List UInt8 => [.flat (.string ⟨l.toArray⟩)]) (fun l => l.length ≤ 140737488351232) := Opens.str (by kernel_rfl) (by kernel_rfl)
theorem opInts : Opens Tryd.prog 41 1 (fun l : List Int => [.sl false 1 l.length (l.map fun x => .flat (.int .i64 x))]) (fun l => l.length * 8 ≤ 140737488351232 ∧ ∀ z ∈ l, (Lit.int .i64 z).wf = true) :=
  Opens.sub (Opens.slice (P := Tryd.prog) (bytes := 8) Tryd.underlying41 (by kernel_rfl) (by decide) (by kernel_rfl) opInt) (fun _ => rfl) fun l hl => ⟨l, by simp only [List.map_eq_flatMap], by have := hl.1; omega, hl.2⟩
theorem opTree : Opens Tryd.prog 24 2 treeC (fun t => TSm t ∧ SymR t) := Opens.tree Tryd.underlying24 rfl rfl rfl (by kernel_rfl) Tryd.underlying22 (by kernel_rfl) (by kernel_rfl) (by kernel_rfl) (by kernel_rfl)
theorem var_heap {P : Program} {W : World} {name : String} {b : Nat} {cs : Array Value} (h3 : P.globalNamed name = some b) (hv : W.var? P name = some cs) : ∃ T fz, W.heap[b]? = some (.cells cs T fz) := by
  simp only [World.var?, h3, Option.bind_some] at hv
  cases ho : W.heap[b]? with
  | none => rw [ho] at hv; cases hv
  | some o =>
    rw [ho] at hv
    cases o with
    | cells cs' T fz =>
      simp only [Option.some.injEq] at hv
      subst hv
      exact ⟨T, fz, rfl⟩
    | _ => cases hv
theorem tab_cell {W : World} {b : Nat} {cs : Array Value} {tab : List Value} {T : TypeId} {fz : Nat × Nat} (h1 : W.heap[b]? = some (.cells cs T fz)) (hcs : cs.toList = tab) : ∃ (cs : Array Value) (T : TypeId) (fz : Nat × Nat), W.heap[b]? = some (.cells cs T fz) ∧ cs.size = (tab.map fun v (u : Value) => u = v).length ∧ ∀ (i : Nat) (c : Value → Prop), (tab.map fun v (u : Value) => u = v)[i]? = some c → ∃ u, cs[i]? = some u ∧ c u := by
  refine ⟨cs, T, fz, h1, ?_, fun i c hc => ?_⟩
  · rw [← Array.length_toList, hcs, List.length_map]
  · rw [List.getElem?_map] at hc
    cases hx : tab[i]? with
    | none => rw [hx] at hc; cases hc
    | some v =>
      rw [hx] at hc
      have hc := Option.some.inj hc
      refine ⟨v, by rw [← Array.getElem?_toList, hcs]; exact hx, ?_⟩
      rw [← hc]
set_option maxRecDepth 100000 in
/-- The table's cells. -/
theorem glw7 {W : World} (h : laidMetH Tryd.prog (("math/bits.deBruijn32tab", Rows.laid_math_bits_deBruijn32tab) :: ("math/bits.deBruijn64tab", Rows.laid_math_bits_deBruijn64tab) :: ("internal/strconv.uint64pow10", Rows.laid_internal_strconv_uint64pow10) :: ("unicode/utf8.acceptRanges", Rows.laid_unicode_utf8_acceptRanges) :: ("strconv.ErrRange", Rows.laid_strconv_ErrRange) :: ("strconv.ErrSyntax", Rows.laid_strconv_ErrSyntax) :: ("unicode/utf8.first", Rows.laid_unicode_utf8_first) :: []) W) : GlW W := by
  rw [MakeChecks.laidMetH_plain _ _ _ (by kernel_rfl)] at h
  obtain ⟨ps, ⟨_, _, _, _, _, _, _, _, _, _, ⟨g1, t1, cs1, fuel1, p1, q1, hg1, ht1, hv1, hd1, ⟨g, t, cs, fuel, p, q, hg, ht, hv, hd, _, _⟩, _⟩, _⟩, _, _⟩ := h
  have h3 : Tryd.prog.globalNamed "internal/strconv.uint64pow10" = some 2 := by kernel_rfl
  obtain rfl := Option.some.inj (h3.symm.trans hg)
  obtain rfl := Option.some.inj ((show (Tryd.prog.globals[2]?).map (·.type) = some 153 by kernel_rfl).symm.trans ht)
  have hcs : cs.toList = Lib.pow10Tab.map fun z => .int .u64 z := cells_laid (len := 20) (e := 138) (by kernel_rfl) (by kernel_rfl) (by kernel_rfl) (by kernel_rfl) hd
  intro p hp
  obtain rfl := List.mem_singleton.1 hp
  obtain ⟨T, fz, h1⟩ := var_heap h3 hv
  exact tab_cell h1 hcs
end Go.Proofs.YtohjapcafkhabaaDoor
