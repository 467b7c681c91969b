/- The arguments of the laws opened as data; the tables that are laid. No condition. -/
import Derived.Test.YtgcmajgkcahbnaaDoorYA
import Derived.Test.YtgcmajgkcahbnaaDoorYAV
import Derived.Test.YtgcmajgkcahbnaaDoorYBG
import Derived.Test.YtgcmajgkcahbnaaDoorXO
import Derived.Test.YtgcmajgkcahbnaaDoorRows
import Derived.LaidMore
import Derived.Lay
import Derived.LaidLaws

set_option linter.unusedSimpArgs false
set_option linter.unusedVariables false
set_option maxHeartbeats 1000000
set_option maxRecDepth 8000
namespace Go.Proofs.YtgcmajgkcahbnaaDoor
open Go Go.RowKit Go.PP Go.Dm Go.Bs
open Go.Proofs.YtgcmajgkcahbnaaDoor

theorem Opens.sub {P : Program} {t : TypeId} {n : Nat} {α β : Type} {f : α → List D} {g : β → List D} {ok : α → Prop} {ok2 : β → Prop} (h : Opens P t n f ok) (hl : ∀ y, (g y).length = n) (hs : ∀ y, ok y → ∃ z, g z = f y ∧ ok2 z) : Opens P t n g ok2 :=
  ⟨h.1, hl, fun H enc w base held fuel cs x hx hw => by
    obtain ⟨y, h1, h2⟩ := h.2.2 H enc w base held fuel cs x hx hw
    obtain ⟨z, h3, h4⟩ := hs y h2
    exact ⟨z, h3 ▸ h1, h4⟩⟩
theorem opInt : Opens Tryd.prog 3 1 (fun z : Int => [.flat (.int .i64 z)]) (fun z => (Lit.int .i64 z).wf = true) := Opens.int (P := Tryd.prog) TyInt.h (by kernel_rfl)
theorem opU8 : Opens Tryd.prog 5 1 (fun z : Int => [.flat (.int .u8 z)]) (fun z => (Lit.int .u8 z).wf = true) := Opens.int (P := Tryd.prog) TyInt.h (by kernel_rfl)
theorem opU16 : Opens Tryd.prog 42 1 (fun z : Int => [.flat (.int .u16 z)]) (fun z => (Lit.int .u16 z).wf = true) := Opens.int (P := Tryd.prog) TyInt.h (by kernel_rfl)
theorem u8_range {z : Int} (h : (Lit.int .u8 z).wf = true) : 0 ≤ z ∧ z ≤ 255 := by simpa [Lit.wf, IntKind.min, IntKind.max, IntKind.signed, IntKind.bits] using h
theorem u16_range {z : Int} (h : (Lit.int .u16 z).wf = true) : 0 ≤ z ∧ z ≤ 65535 := by simpa [Lit.wf, IntKind.min, IntKind.max, IntKind.signed, IntKind.bits] using h
theorem u64_range {z : Int} (h : (Lit.int .u64 z).wf = true) : 0 ≤ z ∧ z ≤ 18446744073709551615 := by simpa [Lit.wf, IntKind.min, IntKind.max, IntKind.signed, IntKind.bits] using h
theorem i64_range {z : Int} (h : (Lit.int .i64 z).wf = true) : -9223372036854775808 ≤ z ∧ z ≤ 9223372036854775807 := by simpa [Lit.wf, IntKind.min, IntKind.max, IntKind.signed, IntKind.bits] using h
theorem opU64 : Opens Tryd.prog 22 1 (fun z : Int => [.flat (.int .u64 z)]) (fun z => (Lit.int .u64 z).wf = true) := Opens.int (P := Tryd.prog) TyInt.h (by kernel_rfl)
theorem opWord : Opens Tryd.prog 22 1 (fun n : Nat => [.flat (.int .u64 (n : Int))]) (fun n => n < 18446744073709551616) :=
  Opens.sub opU64 (fun _ => rfl) fun z hz => by
    have := u64_range hz
    exact ⟨z.toNat, by rw [Int.toNat_of_nonneg this.1], by omega⟩
theorem set_words (l : List Nat) (hl : l.length = 16) (hb : ∀ y ∈ l, y < 18446744073709551616) : setC (ofWs (fun i => l.getD i 0) 16) = l.flatMap fun (n : Nat) => [D.flat (.int .u64 (n : Int))] := by
  have hf : ∀ i, i < 16 → l.getD i 0 < 18446744073709551616 := fun i hi => by
    rw [List.getD_eq_getElem?_getD, List.getElem?_eq_getElem (by omega)]
    exact hb _ (List.getElem_mem _)
  rw [setC_aD, ← List.map_eq_flatMap]
  refine List.ext_getElem? fun i => ?_
  rcases Nat.lt_or_ge i 16 with hi | hi
  · rw [aD_get _ hi, List.getElem?_map, List.getElem?_eq_getElem (by omega)]
    show some (D.flat (.int .u64 (((wdS (ofWs (fun i => l.getD i 0) 16) i : Nat) : Int)))) = _
    rw [wdS_ofWs _ hf hi, List.getD_eq_getElem?_getD, List.getElem?_eq_getElem (by omega)]; rfl
  · rw [List.getElem?_eq_none (by rw [aD_len]; exact hi), List.getElem?_eq_none (by rw [List.length_map]; omega)]
theorem opSet : Opens Tryd.prog 24 16 (fun S : Nat => setC S) (fun S => SetOk S) :=
  Opens.sub (n := 16) (Opens.array (P := Tryd.prog) (len := 16) (n := 1) (by kernel_rfl : Tryd.prog.underlying 24 = some (.array 16 22)) (by kernel_rfl) (by decide) opWord) (fun S => setC_len S) fun ⟨l, hl⟩ hb => ⟨_, set_words l hl hb, ok_ofWs _⟩
theorem var_heap {P : Program} {W : World} {name : String} {b : Nat} {cs : Array Value} (h3 : P.globalNamed name = some b) (hv : W.var? P name = some cs) : ∃ T fz, W.heap[b]? = some (.cells cs T fz) := by
  simp only [World.var?, h3, Option.bind_some] at hv
  cases ho : W.heap[b]? with
  | none => rw [ho] at hv; cases hv
  | some o =>
    rw [ho] at hv
    cases o with
    | cells cs' T fz =>
      simp only [Option.some.injEq] at hv
      subst hv
      exact ⟨T, fz, rfl⟩
    | _ => cases hv
theorem tab_cell {W : World} {b : Nat} {cs : Array Value} {tab : List Value} {T : TypeId} {fz : Nat × Nat} (h1 : W.heap[b]? = some (.cells cs T fz)) (hcs : cs.toList = tab) : ∃ (cs : Array Value) (T : TypeId) (fz : Nat × Nat), W.heap[b]? = some (.cells cs T fz) ∧ cs.size = (tab.map fun v (u : Value) => u = v).length ∧ ∀ (i : Nat) (c : Value → Prop), (tab.map fun v (u : Value) => u = v)[i]? = some c → ∃ u, cs[i]? = some u ∧ c u := by
  refine ⟨cs, T, fz, h1, ?_, fun i c hc => ?_⟩
  · rw [← Array.length_toList, hcs, List.length_map]
  · rw [List.getElem?_map] at hc
    cases hx : tab[i]? with
    | none => rw [hx] at hc; cases hc
    | some v =>
      rw [hx] at hc
      have hc := Option.some.inj hc
      refine ⟨v, by rw [← Array.getElem?_toList, hcs]; exact hx, ?_⟩
      rw [← hc]
set_option maxRecDepth 100000 in
/-- The tables' cells. -/
theorem glw {W : World} (h : laidMetH Tryd.prog (("math/bits.deBruijn32tab", Rows.laid_math_bits_deBruijn32tab) :: ("math/bits.deBruijn64tab", Rows.laid_math_bits_deBruijn64tab) :: ("internal/strconv.uint64pow10", Rows.laid_internal_strconv_uint64pow10) :: []) W) : GlW W := by
  rw [MakeChecks.laidMetH_plain _ _ _ (by kernel_rfl)] at h
  obtain ⟨ps, ⟨_, _, _, _, _, _, _, _, _, _, ⟨g1, t1, cs1, fuel1, p1, q1, hg1, ht1, hv1, hd1, ⟨g, t, cs, fuel, p, q, hg, ht, hv, hd, _, _⟩, _⟩, _⟩, _, _⟩ := h
  have h3 : Tryd.prog.globalNamed "internal/strconv.uint64pow10" = some 1 := by kernel_rfl
  obtain rfl := Option.some.inj (h3.symm.trans hg)
  obtain rfl := Option.some.inj ((show (Tryd.prog.globals[1]?).map (·.type) = some 142 by kernel_rfl).symm.trans ht)
  have h4 : Tryd.prog.globalNamed "math/bits.deBruijn64tab" = some 0 := by kernel_rfl
  obtain rfl := Option.some.inj (h4.symm.trans hg1)
  obtain rfl := Option.some.inj ((show (Tryd.prog.globals[0]?).map (·.type) = some 100 by kernel_rfl).symm.trans ht1)
  have hcs : cs.toList = Lib.pow10Tab.map fun z => .int .u64 z := cells_laid (len := 20) (e := 22) (by kernel_rfl) (by kernel_rfl) (by kernel_rfl) (by kernel_rfl) hd
  have hcs1 : cs1.toList = (Lib.deBruijn64tab.map fun n => ((n : Nat) : Int)).map fun z => .int .u8 z := cells_laid (len := 64) (e := 5) (by kernel_rfl) (by kernel_rfl) (by kernel_rfl) (by kernel_rfl) hd1
  intro p hp
  rcases List.mem_cons.1 hp with rfl | hp
  · obtain ⟨T, fz, h1⟩ := var_heap h4 hv1
    exact tab_cell h1 (hcs1.trans (by rw [List.map_map]; rfl))
  · obtain rfl := List.mem_singleton.1 hp
    obtain ⟨T, fz, h1⟩ := var_heap h3 hv
    exact tab_cell h1 hcs
end Go.Proofs.YtgcmajgkcahbnaaDoor
