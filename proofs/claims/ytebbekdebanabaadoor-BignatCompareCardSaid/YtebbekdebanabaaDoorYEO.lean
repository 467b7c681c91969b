/- The arguments of the laws opened as data; the table that is laid. No condition. -/
import Derived.Test.YtebbekdebanabaaDoorYA
import Derived.Test.YtebbekdebanabaaDoorYFU
import Derived.Test.YtebbekdebanabaaDoorXO
import Derived.Test.YtebbekdebanabaaDoorRows
import Derived.LaidMore
import Derived.Lay
import Derived.LaidLaws

set_option linter.unusedSimpArgs false
set_option linter.unusedVariables false
set_option maxHeartbeats 1000000
set_option maxRecDepth 8000
namespace Go.Proofs.YtebbekdebanabaaDoor
open Go Go.RowKit Go.PP Go.Dm
open Go.Proofs.YtebbekdebanabaaDoor

theorem Opens.sub {P : Program} {t : TypeId} {n : Nat} {α β : Type} {f : α → List D} {g : β → List D} {ok : α → Prop} {ok2 : β → Prop} (h : Opens P t n f ok) (hl : ∀ y, (g y).length = n) (hs : ∀ y, ok y → ∃ z, g z = f y ∧ ok2 z) : Opens P t n g ok2 :=
  ⟨h.1, hl, fun H enc w base held fuel cs x hx hw => by
    obtain ⟨y, h1, h2⟩ := h.2.2 H enc w base held fuel cs x hx hw
    obtain ⟨z, h3, h4⟩ := hs y h2
    exact ⟨z, h3 ▸ h1, h4⟩⟩
theorem opInt : Opens Tryd.prog 3 1 (fun z : Int => [.flat (.int .i64 z)]) (fun z => (Lit.int .i64 z).wf = true) := Opens.int (P := Tryd.prog) TyInt.h (by kernel_rfl)
theorem i64_range {z : Int} (h : (Lit.int .i64 z).wf = true) : -9223372036854775808 ≤ z ∧ z ≤ 9223372036854775807 := by simpa [Lit.wf, IntKind.min, IntKind.max, IntKind.signed, IntKind.bits] using h
theorem opU8 : Opens Tryd.prog 5 1 (fun z : Int => [.flat (.int .u8 z)]) (fun z => (Lit.int .u8 z).wf = true) := Opens.int (P := Tryd.prog) TyInt.h (by kernel_rfl)
theorem u8_range {z : Int} (h : (Lit.int .u8 z).wf = true) : 0 ≤ z ∧ z ≤ 255 := by simpa [Lit.wf, IntKind.min, IntKind.max, IntKind.signed, IntKind.bits] using h
theorem u64_range {z : Int} (h : (Lit.int .u64 z).wf = true) : 0 ≤ z ∧ z ≤ 18446744073709551615 := by simpa [Lit.wf, IntKind.min, IntKind.max, IntKind.signed, IntKind.bits] using h
theorem u32_range {z : Int} (h : (Lit.int .u32 z).wf = true) : 0 ≤ z ∧ z ≤ 4294967295 := by simpa [Lit.wf, IntKind.min, IntKind.max, IntKind.signed, IntKind.bits] using h
theorem opU64i : Opens Tryd.prog 27 1 (fun z : Int => [.flat (.int .u64 z)]) (fun z => (Lit.int .u64 z).wf = true) := Opens.int (P := Tryd.prog) TyInt.h (by kernel_rfl)
theorem opU32i : Opens Tryd.prog 22 1 (fun z : Int => [.flat (.int .u32 z)]) (fun z => (Lit.int .u32 z).wf = true) := Opens.int (P := Tryd.prog) TyInt.h (by kernel_rfl)
theorem opU64 : Opens Tryd.prog 27 1 (fun n : Nat => [.flat (.int .u64 (n : Int))]) (fun n => n < 18446744073709551616) :=
  Opens.sub opU64i (fun _ => rfl) fun z hz => by
    have := u64_range hz
    exact ⟨z.toNat, by rw [Int.toNat_of_nonneg this.1], by omega⟩
theorem opU32 : Opens Tryd.prog 22 1 (fun n : Nat => [.flat (.int .u32 (n : Int))]) (fun n => n < 4294967296) :=
  Opens.sub opU32i (fun _ => rfl) fun z hz => by
    have := u32_range hz
    exact ⟨z.toNat, by rw [Int.toNat_of_nonneg this.1], by omega⟩
theorem opU8n : Opens Tryd.prog 5 1 (fun n : Nat => [.flat (.int .u8 (n : Int))]) (fun n => n < 256) :=
  Opens.sub opU8 (fun _ => rfl) fun z hz => by
    have := u8_range hz
    exact ⟨z.toNat, by rw [Int.toNat_of_nonneg this.1], by omega⟩
theorem opU8b : Opens Tryd.prog 5 1 (fun b : UInt8 => [.flat (.int .u8 (b.toNat : Int))]) (fun _ => True) :=
  Opens.sub opU8n (fun _ => rfl) fun n hn => ⟨UInt8.ofNat n, by rw [UInt8.toNat_ofNat', Nat.mod_eq_of_lt hn], trivial⟩
/-- A slice of bytes. -/
abbrev bysD (l : List UInt8) : D := .sl false 1 l.length (bD l)
theorem opBys : Opens Tryd.prog 36 1 (fun l : List UInt8 => [bysD l]) (fun l => l.length ≤ 140737488351232) :=
  Opens.sub (Opens.slice (P := Tryd.prog) (bytes := 1) TySl.h (by kernel_rfl) (by decide) (by kernel_rfl) opU8b) (fun _ => rfl) fun l hl => ⟨l, by simp only [bysD, bD, List.map_eq_flatMap], by have := hl.1; omega⟩
theorem opStr : Opens Tryd.prog 9 1 (fun l : List UInt8 => [.flat (.string ⟨l.toArray⟩)]) (fun l => l.length ≤ 140737488351232) := Opens.str (by kernel_rfl) (by kernel_rfl)
theorem var_heap {P : Program} {W : World} {name : String} {b : Nat} {cs : Array Value} (h3 : P.globalNamed name = some b) (hv : W.var? P name = some cs) : ∃ T fz, W.heap[b]? = some (.cells cs T fz) := by
  simp only [World.var?, h3, Option.bind_some] at hv
  cases ho : W.heap[b]? with
  | none => rw [ho] at hv; cases hv
  | some o =>
    rw [ho] at hv
    cases o with
    | cells cs' T fz =>
      simp only [Option.some.injEq] at hv
      subst hv
      exact ⟨T, fz, rfl⟩
    | _ => cases hv
theorem tab_cell {W : World} {b : Nat} {cs : Array Value} {tab : List Value} {T : TypeId} {fz : Nat × Nat} (h1 : W.heap[b]? = some (.cells cs T fz)) (hcs : cs.toList = tab) : ∃ (cs : Array Value) (T : TypeId) (fz : Nat × Nat), W.heap[b]? = some (.cells cs T fz) ∧ cs.size = (tab.map fun v (u : Value) => u = v).length ∧ ∀ (i : Nat) (c : Value → Prop), (tab.map fun v (u : Value) => u = v)[i]? = some c → ∃ u, cs[i]? = some u ∧ c u := by
  refine ⟨cs, T, fz, h1, ?_, fun i c hc => ?_⟩
  · rw [← Array.length_toList, hcs, List.length_map]
  · rw [List.getElem?_map] at hc
    cases hx : tab[i]? with
    | none => rw [hx] at hc; cases hc
    | some v =>
      rw [hx] at hc
      have hc := Option.some.inj hc
      refine ⟨v, by rw [← Array.getElem?_toList, hcs]; exact hx, ?_⟩
      rw [← hc]
set_option maxRecDepth 100000 in
/-- The table's cells. -/
theorem glw {W : World} (h : laidMetH Tryd.prog (("math/bits.deBruijn32tab", Rows.laid_math_bits_deBruijn32tab) :: ("math/bits.deBruijn64tab", Rows.laid_math_bits_deBruijn64tab) :: ("internal/strconv.uint64pow10", Rows.laid_internal_strconv_uint64pow10) :: []) W) : GlW W := by
  rw [MakeChecks.laidMetH_plain _ _ _ (by kernel_rfl)] at h
  obtain ⟨ps, ⟨_, _, _, _, _, _, _, _, _, _, ⟨_, _, _, _, _, _, _, _, _, _, ⟨g, t, cs, fuel, p, q, hg, ht, hv, hd, _, _⟩, _⟩, _⟩, _, _⟩ := h
  have h3 : Tryd.prog.globalNamed "internal/strconv.uint64pow10" = some 0 := by kernel_rfl
  obtain rfl := Option.some.inj (h3.symm.trans hg)
  obtain rfl := Option.some.inj ((show (Tryd.prog.globals[0]?).map (·.type) = some 134 by kernel_rfl).symm.trans ht)
  have hcs : cs.toList = Lib.pow10Tab.map fun z => .int .u64 z := cells_laid (len := 20) (e := 27) (by kernel_rfl) (by kernel_rfl) (by kernel_rfl) (by kernel_rfl) hd
  intro p hp
  obtain rfl := List.mem_singleton.1 hp
  obtain ⟨T, fz, h1⟩ := var_heap h3 hv
  exact tab_cell h1 hcs
set_option maxRecDepth 100000 in
/-- The table's cells. -/
theorem glw5 {W : World} (h : laidMetH Tryd.prog (("math/bits.deBruijn32tab", Rows.laid_math_bits_deBruijn32tab) :: ("math/bits.deBruijn64tab", Rows.laid_math_bits_deBruijn64tab) :: ("internal/strconv.uint64pow10", Rows.laid_internal_strconv_uint64pow10) :: ("unicode/utf8.acceptRanges", Rows.laid_unicode_utf8_acceptRanges) :: ("unicode/utf8.first", Rows.laid_unicode_utf8_first) :: []) W) : GlW W := by
  rw [MakeChecks.laidMetH_plain _ _ _ (by kernel_rfl)] at h
  obtain ⟨ps, ⟨_, _, _, _, _, _, _, _, _, _, ⟨_, _, _, _, _, _, _, _, _, _, ⟨g, t, cs, fuel, p, q, hg, ht, hv, hd, _, _⟩, _⟩, _⟩, _, _⟩ := h
  have h3 : Tryd.prog.globalNamed "internal/strconv.uint64pow10" = some 0 := by kernel_rfl
  obtain rfl := Option.some.inj (h3.symm.trans hg)
  obtain rfl := Option.some.inj ((show (Tryd.prog.globals[0]?).map (·.type) = some 134 by kernel_rfl).symm.trans ht)
  have hcs : cs.toList = Lib.pow10Tab.map fun z => .int .u64 z := cells_laid (len := 20) (e := 27) (by kernel_rfl) (by kernel_rfl) (by kernel_rfl) (by kernel_rfl) hd
  intro p hp
  obtain rfl := List.mem_singleton.1 hp
  obtain ⟨T, fz, h1⟩ := var_heap h3 hv
  exact tab_cell h1 hcs
end Go.Proofs.YtebbekdebanabaaDoor
