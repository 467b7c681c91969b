/- A machine over data: memory that a call makes and gives to its caller. No condition. -/
import Derived.Test.YtjmljmappfhiaaaDoorXW

set_option linter.unusedSimpArgs false
set_option linter.unusedVariables false
set_option linter.unusedSectionVars false
set_option maxHeartbeats 400000
namespace Go.Dm
open Go Go.RowKit Go.PP
variable [GlobW]

theorem lk_allNone : ∀ {pe : Sg}, (pe.all fun p => p.2.isNone) = true → ∀ id, lkE pe id = none
  | [], _, id => rfl
  | (k, x) :: r, h, id => by
    simp only [List.all_cons, Bool.and_eq_true] at h
    rw [lkE_cons]
    by_cases e : k = id
    · rw [if_pos e]; simpa using h.1
    · rw [if_neg e]; exact lk_allNone h.2 id
/-- What a call makes of its own, seen as data that no one changes any more. -/
theorem DLend.toFun {P : Program} {k : FuncId} {args : List D} {pe we : Sg} {d d' : D} (h : DLend P k args pe we d) (hpe : (pe.all fun p => p.2.isNone) = true) (he : Ens we we) (hv : Vw we d d') : DFun P k args d' := .intro fun M w vals hM hargs hgl => by
  have hn := lk_allNone hpe
  have hb : ∀ g id, blkOf g pe id = none := fun g id => by unfold blkOf; rw [hn]
  refine (h.go M ⟨fun _ => 0, fun _ => undef⟩ w vals hM ⟨fun id e q => (by rw [hn] at q; cases q), fun id id' b q => (by rw [hb] at q; cases q), fun id b q => (by rw [hb] at q; cases q)⟩ ((hargs.up).mono fun b _ q => ?_) ⟨hgl, fun b _ ⟨id, q⟩ => by rw [hb] at q; cases q⟩).mono fun e w' ⟨v, g', q1, m, _, hh, hnw, hr⟩ => ?_
  · rcases q with q | ⟨id, q⟩
    · exact q
    · rw [hb] at q; cases q
  · have m' : Fix w w' := m.mono fun b _ ⟨id, q⟩ => by rw [hb] at q; cases q
    refine ⟨v, q1, ?_, m'⟩
    have hold : ∀ id b, blkOf g' we id = some b → w.heap.size ≤ b := fun id b q => Nat.le_of_not_lt fun hlt => by
      obtain ⟨id', q'⟩ := hnw id b q hlt
      rw [hb] at q'; cases q'
    have hst : StG w' M ⟨fun b => w.heap.size ≤ b, fun _ _ => True, fun _ _ _ => True, fun _ _ _ _ _ _ _ => trivial⟩ 0 g' ⟨[], we⟩ { tmps := #[], defers := [] } w' := by
      refine ⟨Mut.refl _ w', fun b q => Nat.lt_of_lt_of_le (hM b q) m'.size, rfl, rfl, fun t => by simp only [lkF, Rep], hh.ent, hh.sep, fun id b q => ⟨(hh.new id b q).1, fun _ => hold id b q, (hh.new id b q).2⟩, fun id => ⟨fun _ _ => .inr trivial, fun _ _ _ _ _ => .inr trivial⟩, hgl.mut m' (fun _ _ e => e), fun b q1 q2 => ?_⟩
      have := hgl.lt q1
      omega
    exact (hv _ _ _ _ _ _ _ _ hst he v hr).mono fun b _ q => .inl q
theorem DLend.le {P : Program} {k : FuncId} {args args' : List D} {pe we : Sg} {d : D} (h : DLend P k args pe we d) (ha : LeL args' args) : DLend P k args' pe we d := .intro fun M0 g w vals hM hh hv hgl =>
  h.go M0 g w vals hM hh (LeL.rep (fun b hb => by
    rcases hb with hb | ⟨id, hb⟩
    · exact hM b hb
    · exact (hh.new id b hb).1) ha hv) hgl
end Go.Dm
