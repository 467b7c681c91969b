/- A machine over data: an array of one's own, taken as a slice. No condition. -/
import Derived.Test.YtgcmajgkcahbnaaDoorXSl

set_option linter.unusedSimpArgs false
set_option linter.unusedVariables false
set_option linter.unusedSectionVars false
namespace Go.Dm
open Go Go.RowKit Go.PP
variable [GlobW]
section
variable {P : Program} {N : Nat}
theorem T.sliceArr [Rnd] {dst : Option Tmp} {ty : TypeId} {pos : String} {af : Array Edge} {gd : Option (Nat × Bool)} {id len e n : Nat} (t : TypeId) (x : Operand) (ht : P.underlying t = some (.array len e)) (hn : sizeOfT P e = some n) (h0 : 0 < len) :
    Tri P N ⟨dst, .slice t x none none none, ty, pos, af, gd⟩ [(x, .ref id 0)] [] (.bsl id 0 len len) [] := Tri.val fun M w G ρ hv => by
  have h1 := hv.1
  simp only [Rep] at h1
  obtain ⟨g, σ, cs, hG, h2, h3⟩ := h1
  have he : P.elem t = e := by simp [Program.elem, ht]
  have hl : P.arrayLen t = len := by simp [Program.arrayLen, ht]
  have hr := run_sliceAt_array_all (P := P) w t ⟨g.blk id, 0, none⟩ (by rw [he, hl]; exact ht)
  rw [he, hl, run_sizeOf hn] at hr
  simp only [Result.andThen_ok] at hr
  refine ⟨.slice (some ⟨g.blk id, 0, none⟩) len len, ?_, by simp only [Rep]; exact ⟨g, σ, cs, hG, h2, rfl⟩⟩
  simp only [execOp, h3, Option.map_none, Sem.run_bind, hr, Result.andThen_ok, Sem.run_pure]
  simp [slicedAt, Addr.add, show ¬ (len = 0) by omega]
theorem T.slicePtr [Rnd] {dst : Option Tmp} {ty : TypeId} {pos : String} {af : Array Edge} {gd : Option (Nat × Bool)} {cs : List D} {len e : Nat} (t : TypeId) (x : Operand) (ht : P.underlying t = some (.array len e)) (hn : sizeOfT P e = some 1) (h0 : 0 < len) (hl : cs.length = len) (hm : len ≤ 1000000) :
    Tri P N ⟨dst, .slice t x none none none, ty, pos, af, gd⟩ [(x, .ptr cs 0)] [] (.sl false 1 len cs) [] := Tri.val fun M w G ρ hv => by
  have h1 := hv.1
  simp only [Rep] at h1
  obtain ⟨b, o, h2, h3, h4, h5⟩ := h1
  have he : P.elem t = e := by simp [Program.elem, ht]
  have hal : P.arrayLen t = len := by simp [Program.arrayLen, ht]
  have hr := run_sliceAt_array_all (P := P) w t ⟨b, o + 0, none⟩ (by rw [he, hal]; exact ht)
  rw [he, hal, run_sizeOf hn] at hr
  simp only [Result.andThen_ok] at hr
  refine ⟨.slice (some ⟨b, o, none⟩) len len, ?_, by simp only [Rep]; exact ⟨_, len, rfl, Nat.le_refl _, fun e => (by cases e), by omega, by omega, .inr ⟨b, o, rfl, h4, h5⟩⟩⟩
  simp only [execOp, h2, Option.map_none, Sem.run_bind, hr, Result.andThen_ok, Sem.run_pure]
  simp [slicedAt, Addr.add, show ¬ (len = 0) by omega]
theorem Vw.bsl {pe : Sg} {id n : Nat} {cs cs' : List D} (hm : (id, some (.box cs)) ∈ pe) (hp : VwL pe cs cs') (hl : cs'.length = n) (hn : n ≤ 1000000) (hk : keysOf cs = none := by first | rfl | assumption) : Vw pe (.bsl id 0 n n) (.sl false 1 n cs') := fun w0 M0 B0 N g s a w hs he v hv => by
  have hσ := he.mem _ hm
  simp only [Rep] at hv ⊢
  obtain ⟨g', σ', cs0, hG, h1, h2⟩ := hv
  cases hG
  simp only at hσ
  obtain ⟨vs, T0, o1, o2, o4⟩ := hs.ent id _ hσ
  obtain ⟨T0, rfl⟩ := o4.cells hk
  have o3 := VwL.rep hs he hp o2
  have hb : blkOf g s.σ id = some (g.blk id) := by unfold blkOf; rw [hσ]
  refine ⟨some ⟨g.blk id, 0, none⟩, n, h2, Nat.le_refl _, fun e => (by cases e), by omega, by omega, ?_⟩
  refine .inr ⟨g.blk id, 0, rfl, ?_, RepC.of fun i d hd => ?_⟩
  · rintro (hq | ⟨id', hq1, hq2⟩)
    · exact (hs.new id _ hb).2.2 hq
    · have := hs.sep id id' _ hb hq2
      subst this
      exact hq1 (keys_mem hm)
  · obtain ⟨u, hu, hr⟩ := o3.get i hd
    exact ⟨u, by simp only [World.cell?, o1, Nat.zero_add]; simpa using hu, hr⟩
end
end Go.Dm
