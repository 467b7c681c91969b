/- The arguments of the laws opened as data; the table that is laid. No condition. -/
import Derived.Test.YtjmljmappfhiaaaDoorYG
import Derived.Test.YtjmljmappfhiaaaDoorXO
import Derived.Test.YtjmljmappfhiaaaDoorRows
import Derived.LaidMore
import Derived.Lay
import Derived.LaidLaws

set_option linter.unusedSimpArgs false
set_option linter.unusedVariables false
set_option maxHeartbeats 1000000
set_option maxRecDepth 8000
namespace Go.Proofs.YtjmljmappfhiaaaDoor
open Go Go.RowKit Go.PP Go.Dm
open Go.Proofs.YtjmljmappfhiaaaDoor

theorem opStr : Opens Tryd.prog 9 1 (fun l : Bs => [strD l]) (fun l => l.length ≤ 140737488351232) := Opens.str (P := Tryd.prog) TyStr.h (by kernel_rfl)
theorem opU8 : Opens Tryd.prog 5 1 (fun z : Int => [.flat (.int .u8 z)]) (fun z => (Lit.int .u8 z).wf = true) := Opens.int (P := Tryd.prog) TyInt.h (by kernel_rfl)
theorem u8_nat {z : Int} (h : (Lit.int .u8 z).wf = true) : ∃ c : UInt8, z = c.toNat := by
  have hx : 0 ≤ z ∧ z ≤ 255 := by simpa [Lit.wf, IntKind.min, IntKind.max, IntKind.signed, IntKind.bits] using h
  refine ⟨UInt8.ofNat z.toNat, ?_⟩
  rw [UInt8.toNat_ofNat']
  omega
theorem Opens.sub {P : Program} {t : TypeId} {n : Nat} {α β : Type} {f : α → List D} {g : β → List D} {ok : α → Prop} {ok2 : β → Prop} (h : Opens P t n f ok) (hl : ∀ y, (g y).length = n) (hs : ∀ y, ok y → ∃ z, f y = g z ∧ ok2 z) : Opens P t n g ok2 :=
  ⟨h.1, hl, fun H enc w base held fuel cs x hx hw => by
    obtain ⟨y, h1, h2⟩ := h.2.2 H enc w base held fuel cs x hx hw
    obtain ⟨z, h3, h4⟩ := hs y h2
    exact ⟨z, h3 ▸ h1, h4⟩⟩
theorem opU16 : Opens Tryd.prog 65 1 (fun z : Int => [.flat (.int .u16 z)]) (fun z => (Lit.int .u16 z).wf = true) := Opens.int (P := Tryd.prog) TyInt.h (by kernel_rfl)
theorem u8_range {z : Int} (h : (Lit.int .u8 z).wf = true) : 0 ≤ z ∧ z ≤ 255 := by simpa [Lit.wf, IntKind.min, IntKind.max, IntKind.signed, IntKind.bits] using h
theorem u16_range {z : Int} (h : (Lit.int .u16 z).wf = true) : 0 ≤ z ∧ z ≤ 65535 := by simpa [Lit.wf, IntKind.min, IntKind.max, IntKind.signed, IntKind.bits] using h
theorem opByte : Opens Tryd.prog 5 1 (fun c : UInt8 => [.flat (.int .u8 c.toNat)]) (fun _ => True) :=
  Opens.sub opU8 (fun _ => rfl) fun z hz => by
    obtain ⟨c, rfl⟩ := u8_nat hz
    exact ⟨c, rfl, trivial⟩
theorem opBytes : Opens Tryd.prog 23 1 (fun l : Bs => [bytesD l]) (fun l => l.length ≤ 140737488351232) :=
  Opens.sub (Opens.slice (P := Tryd.prog) (bytes := 1) TySl.h (by kernel_rfl) (by decide) (by kernel_rfl) opByte) (fun _ => rfl) fun l hl => ⟨l, by simp only [bytesD, bD, List.flatMap_singleton'] ; rw [List.map_eq_flatMap], by have := hl.1; omega⟩
theorem opEnt : Opens Tryd.prog 29 2 (fun e : Bs × Bs => [strD e.1, strD e.2]) (fun e => e.1.length ≤ 140737488351232 ∧ e.2.length ≤ 140737488351232) := Opens.pair (P := Tryd.prog) (n0 := 1) (n1 := 1) Tryd.underlying29 (by kernel_rfl) rfl rfl opStr opStr
theorem opEnts : Opens Tryd.prog 22 1 (fun l : List (Bs × Bs) => [entsD l]) (fun l => l.length ≤ 140737488351232 ∧ ∀ e ∈ l, e.1.length ≤ 140737488351232 ∧ e.2.length ≤ 140737488351232) :=
  Opens.sub (Opens.slice (P := Tryd.prog) (bytes := 32) TySl.h (by kernel_rfl) (by decide) (by kernel_rfl) opEnt) (fun _ => rfl) fun l hl => ⟨l, rfl, by have := hl.1; omega, hl.2⟩
theorem opStrs : Opens Tryd.prog 47 1 (fun l : List Bs => [.sl false 1 l.length (l.map strD)]) (fun l => l.length ≤ 140737488351232 ∧ ∀ e ∈ l, e.length ≤ 140737488351232) :=
  Opens.sub (Opens.slice (P := Tryd.prog) (bytes := 16) TySl.h (by kernel_rfl) (by decide) (by kernel_rfl) opStr) (fun _ => rfl) fun l hl => ⟨l, by rw [List.map_eq_flatMap], by have := hl.1; omega, hl.2⟩
theorem var_heap {P : Program} {W : World} {name : String} {b : Nat} {cs : Array Value} (h3 : P.globalNamed name = some b) (hv : W.var? P name = some cs) : ∃ T fz, W.heap[b]? = some (.cells cs T fz) := by
  simp only [World.var?, h3, Option.bind_some] at hv
  cases ho : W.heap[b]? with
  | none => rw [ho] at hv; cases hv
  | some o =>
    rw [ho] at hv
    cases o with
    | cells cs' T fz =>
      simp only [Option.some.injEq] at hv
      subst hv
      exact ⟨T, fz, rfl⟩
    | _ => cases hv
theorem if_cell {W : World} {name : String} {b : Nat} {g : Nat} {t : TypeId} {cs : Array Value} {fuel : Nat} {nm : String} {d : DataW Unit} {p : List MemPlace} {enc : TypeId × Value → Unit} {base : Nat} {sp : Nat → Bool} (h3 : Tryd.prog.globalNamed name = some b) (hg : Tryd.prog.globalNamed name = some g) (hb : (Tryd.prog.globals[b]?).map (·.type) = some 88) (ht : (Tryd.prog.globals[g]?).map (·.type) = some t) (hv : W.var? Tryd.prog name = some cs)
    (hd : DataW.trod enc Tryd.prog W base sp false fuel t cs.toList = some (.iface nm d, p)) : ∃ (cs : Array Value) (T : TypeId) (fz : Nat × Nat), W.heap[b]? = some (.cells cs T fz) ∧ cs.size = [isIf].length ∧ ∀ (i : Nat) (c : Value → Prop), [isIf][i]? = some c → ∃ u, cs[i]? = some u ∧ c u := by
  obtain rfl := Option.some.inj (h3.symm.trans hg)
  obtain rfl := Option.some.inj (hb.symm.trans ht)
  obtain ⟨T, fz, h1⟩ := var_heap h3 hv
  obtain ⟨_, u, v, hcs, _, _⟩ := iface_of_trod (P := Tryd.prog) (ti := 88) (TyIf.h (P := Tryd.prog)) hd
  have hc2 : cs = #[.iface u v] := by rw [← Array.toList_inj]; exact hcs
  subst hc2
  refine ⟨_, T, fz, h1, rfl, fun i c hc => ?_⟩
  cases i with
  | zero => simp at hc; subst hc; exact ⟨_, rfl, .inr ⟨u, v, rfl⟩⟩
  | succ i => simp at hc
set_option maxRecDepth 100000 in
/-- What is laid. -/
theorem glw {W : World} (h : laidMetH Tryd.prog (("math/bits.deBruijn32tab", Rows.laid_math_bits_deBruijn32tab) :: ("math/bits.deBruijn64tab", Rows.laid_math_bits_deBruijn64tab) :: ("internal/strconv.uint64pow10", Rows.laid_internal_strconv_uint64pow10) :: ("strconv.ErrRange", Rows.laid_strconv_ErrRange) :: ("strconv.ErrSyntax", Rows.laid_strconv_ErrSyntax) :: []) W) : GlW W := by
  rw [MakeChecks.laidMetH_plain _ _ _ (by kernel_rfl)] at h
  obtain ⟨ps, ⟨_, _, _, _, _, _, _, _, _, _, ⟨_, _, _, _, _, _, _, _, _, _, ⟨g, t, cs, fuel, p, q, hg, ht, hv, hd, ⟨g1, t1, cs1, fuel1, p1, q1, hg1, ht1, hv1, hd1, ⟨g2, t2, cs2, fuel2, p2, q2, hg2, ht2, hv2, hd2, _, _⟩, _⟩, _⟩, _⟩, _⟩, _, _⟩ := h
  have h3 : Tryd.prog.globalNamed "internal/strconv.uint64pow10" = some 3 := by kernel_rfl
  obtain rfl := Option.some.inj (h3.symm.trans hg)
  obtain rfl := Option.some.inj ((show (Tryd.prog.globals[3]?).map (·.type) = some 116 by kernel_rfl).symm.trans ht)
  have hcs : cs.toList = Lib.pow10Tab.map fun z => .int .u64 z := cells_laid (len := 20) (show Tryd.prog.underlying 116 = some (.array 20 74) by kernel_rfl) (show Tryd.prog.underlying 74 = some (.int .u64) by kernel_rfl) (by kernel_rfl) (by kernel_rfl) hd
  intro p hp
  rcases List.mem_cons.1 hp with rfl | hp
  · obtain ⟨T, fz, h1⟩ := var_heap h3 hv
    refine ⟨cs, T, fz, h1, ?_, fun i c hc => ?_⟩
    · rw [← Array.length_toList, hcs]; simp [tab10]
    · rw [List.getElem?_map] at hc
      cases hx : tab10[i]? with
      | none => rw [hx] at hc; cases hc
      | some v =>
        rw [hx] at hc
        have hc := Option.some.inj hc
        refine ⟨v, by rw [← Array.getElem?_toList, hcs]; exact hx, ?_⟩
        rw [← hc]
  rcases List.mem_cons.1 hp with rfl | hp
  · exact if_cell (show Tryd.prog.globalNamed "strconv.ErrSyntax" = some 1 by kernel_rfl) hg2 (by kernel_rfl) ht2 hv2 hd2
  obtain rfl := List.mem_singleton.1 hp
  exact if_cell (show Tryd.prog.globalNamed "strconv.ErrRange" = some 2 by kernel_rfl) hg1 (by kernel_rfl) ht1 hv1 hd1
end Go.Proofs.YtjmljmappfhiaaaDoor
