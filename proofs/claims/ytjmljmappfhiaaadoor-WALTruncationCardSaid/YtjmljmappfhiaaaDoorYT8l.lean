/- The law of truncation: its loop. No condition. -/
import Derived.Test.YtjmljmappfhiaaaDoorYT8a
import Derived.Test.YtjmljmappfhiaaaDoorYT8b

set_option linter.unusedSimpArgs false
set_option linter.unusedVariables false
set_option maxHeartbeats 8000000
set_option maxRecDepth 8000
namespace Go.Proofs.YtjmljmappfhiaaaDoor
open Go Go.RowKit Go.PP Go.Dm

theorem DW.thn {P : Program} {N : Nat} {c : Code} {s : DS} {R R' : DS → Prop} {Q : Exit → DS → Prop} (h : DW P N c s (Thn R Q)) (hr : ∀ s, R s → R' s) : DW P N c s (Thn R' Q) := h.mono fun e s q => by
  cases e with
  | normal => exact hr s q
  | exit id => exact q
  | goto l => exact q
  | ret => exact q
  | panic c => exact q
  | outgrown => exact q
theorem loop8 {c : Code} (hsel : selC [1, 1, 1, 1, 1, 1, 1, 1, 1, 0, 1, 2] code8 = some c) (w o : List (Bs × Bs)) (k n : Nat) (er : Int) (S : Nat → Int) (hw : w.length ≤ 30) (ho : o.length ≤ 30) (hk : k ≤ 10000) (h0 : S 0 = 0)
    (hr : ∀ i, i < w.length → ∃ (e : Bs × Bs) (zz : Bs), w[i]? = some e ∧ zz.length ≤ 10000 ∧ DFun Tryd.prog 15 [entD e] (bytesD zz) ∧
      ((o[i]? = some e ∧ 0 ≤ S i ∧ S i ≤ 1099511627776 ∧ S i + (zz.length : Int) ≤ (k : Int) ∧ S (i + 1) = S i + zz.length) ∨ (o.length ≤ i ∧ 0 ≤ S i ∧ S i ≤ 1099511627776 ∧ ¬ S i + (zz.length : Int) ≤ (k : Int) ∧ S (i + 1) = 1099511627776))) :
    DW Tryd.prog 132 c (st8 w o k n er 0 0) (Blk 0 (fun e s => e = .normal ∧ Sub 132 s (st8 w o k n er (S w.length) w.length))) := by
  refine DW.sel hsel (by rfl) ?_
  refine DW.loopA (fun i : Nat => st8 w o k n er (S i) i) (fun i => i ≤ w.length) (fun i => w.length - i) 0 ?_ (by omega) (by rw [h0]; exact Sub.refl _ _)
  intro i hi
  rcases Nat.lt_or_ge i w.length with hlt | hge
  · obtain ⟨e, zz, he, hzl, hby, hcase⟩ := hr i hlt
    rcases hcase with ⟨p1, p2, p3, p4, p5⟩ | ⟨p1, p2, p3, p4, p5⟩
    · exact DW.thn (round8a (by rfl) w o e zz k n i er (S i) hw ho he p1 p2 p3 hzl p4 hk hby _) fun s' hs => ⟨i + 1, by omega, by omega, by rw [p5]; exact hs⟩
    · exact DW.thn (round8b (by rfl) w o e zz k n i er (S i) hw ho he p1 p2 p3 hzl p4 hk hby _) fun s' hs => ⟨i + 1, by omega, by omega, by rw [p5]; exact hs⟩
  · obtain rfl : i = w.length := by omega
    refine DW.walk ?_
    exact ⟨rfl, Sub.auto⟩
end Go.Proofs.YtjmljmappfhiaaaDoor
