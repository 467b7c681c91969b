/- Parts of a code, by path. No condition. -/
import Derived.Test.YtohjapcafkhabaaDoorXW

set_option linter.unusedSimpArgs false
set_option linter.unusedVariables false
set_option linter.unusedSectionVars false
namespace Go.Dm
open Go Go.RowKit Go.PP
variable [GlobW]
def selC : List Nat → Code → Option Code
  | [], c => some c
  | 0 :: p, .seq a _ => selC p a
  | 1 :: p, .seq _ b => selC p b
  | 0 :: p, .cond _ a _ => selC p a
  | 1 :: p, .cond _ _ b => selC p b
  | 2 :: p, .block _ c => selC p c
  | 2 :: p, .loop c => selC p c
  | 3 :: p, .rangeFunc _ _ a _ => selC p a
  | 4 :: p, .rangeFunc _ _ _ b => selC p b
  | _, _ => none
theorem DW.sel [Rnd] {P : Program} {N : Nat} {p : List Nat} {b c c0 : Code} {s : DS} {Q : Exit → DS → Prop} (h : selC p b = some c) (h0 : selC p b = some c0) (k : DW P N c0 s Q) : DW P N c s Q := by
  rw [h] at h0
  cases h0
  exact k
/-- The end of a function: its results. -/
abbrev QF (P : Program) (fn : Func) (d : D) : Exit → DS → Prop := fun e s => (e = .normal ∨ e = .ret) ∧ ResOk P fn s d
section
variable {P : Program} {N : Nat}
theorem ResOk.cell2 [Rnd] {fn : Func} {s : DS} {x x2 : Tmp} {t id n t2 id2 n2 : Nat} {bb bb2 : Bool} {cs cs2 : List D} {d d' d2 d2' : D} (pe : Sg) (hr : fn.results = #[.cell x t, .cell x2 t2]) (hx : lkF s.f x = .ref id 0) (hi : lkE s.σ id = some (.box cs)) (hb : aggOf P t = some bb) (hn : sizeOfT P t = some n) (hd : partD bb n 0 cs = some d)
    (hx2 : lkF s.f x2 = .ref id2 0) (hi2 : lkE s.σ id2 = some (.box cs2)) (hb2 : aggOf P t2 = some bb2) (hn2 : sizeOfT P t2 = some n2) (hd2 : partD bb2 n2 0 cs2 = some d2) (he : Ens s.σ pe) (h : Vw pe d d') (h2 : Vw pe d2 d2') (hk : keysOf cs = none := by first | rfl | assumption) (hk2 : keysOf cs2 = none := by first | rfl | assumption) : ResOk P fn s (.tup [d', d2']) := fun w0 M0 B0 N g a w hs => by
  have h0 := hs.tm x
  rw [hx] at h0
  obtain ⟨ad, v, h1, h4, h3⟩ := run_loadBox (P := P) hs hi hb hn hd hk h0
  rw [Array.getD_eq_getD_getElem?] at h1
  have h0' := hs.tm x2
  rw [hx2] at h0'
  obtain ⟨ad2, v2, h12, h42, h32⟩ := run_loadBox (P := P) hs hi2 hb2 hn2 hd2 hk2 h0'
  rw [Array.getD_eq_getD_getElem?] at h12
  refine ⟨.tuple #[v, v2], by simp [results, hr, h1, h4, h12, h42], ?_⟩
  simp only [Rep]
  refine ⟨[_, _], rfl, ?_⟩
  simp only [RepL]
  exact ⟨_, _, rfl, h.out hs he h3, _, _, rfl, h2.out hs he h32, rfl⟩
theorem Aft.n {s : DS} {Q : Exit → DS → Prop} (h : Q .normal s) : Aft P N none s Q := h
theorem Aft.r {s : DS} {Q : Exit → DS → Prop} (h : Q .ret s) : Aft P N (some .ret) s Q := DW.ret h
end
end Go.Dm
