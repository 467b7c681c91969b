/- Contract of Split. Condition: a partition in memory. -/
import Derived.Test.YtojfpobgncapjaaWh
set_option linter.unusedSimpArgs false
set_option linter.unusedVariables false
set_option maxHeartbeats 400000
namespace Go.Proofs.Ytojfpobgncapjaa
open Go Go.RowKit Go.PP

/-- The partition's block is given another row. -/
theorem Part.give {w : World} {p u q v n c : Nat} {R out : List Int} (hp : Part w p u n R) (hq : Part w q v n out) (hpq : p ≠ v) (hc : w.cell? ⟨q, 0, none⟩ = some (.slice (some ⟨v, 0, none⟩) n c)) :
    Part (w.setCell ⟨p, 0, none⟩ (.slice (some ⟨v, 0, none⟩) n c)) p v n out := by
  obtain ⟨_, _, c1, _, _, h3, _⟩ := hp
  obtain ⟨a1, a2, c2, cur, xs, b3, b4, b5, b6⟩ := hq
  refine ⟨a1, a2, c, cur, xs, ?_, ?_, b5, b6⟩
  · simp [World.setCell, Array.getElem?_modify, h3]
  · rw [Below.heap_setCell _ _ _ _ (by simpa using hpq.symm)]; exact b4

theorem Part.frozenP {w : World} {p u n : Nat} {R : List Int} (h : Part w p u n R) : w.frozen? ⟨p, 0, none⟩ = false := by
  obtain ⟨_, _, c, _, _, hp, _⟩ := h
  simp [World.frozen?, hp]

def SplitPost (w : World) (p u n : Nat) (R V : List Int) (e : Ending) (w' : World) : Prop :=
  V.length ≠ n ∧ e = .returned (.int .i64 1) ∧ Mut (fun _ => False) w w' ∨
  V.length = n ∧ ∃ (v : Nat) (out : List Int), e = .returned (.int .i64 0) ∧ w.heap.size ≤ v ∧ IsBy R V n out ∧ Part w' p v n out ∧ Mut (fun b => b = u ∨ b = p) w w'

theorem split_nil (M : Nat → Prop) (vm : Value) (V : List Int) (w : World) (hv : Ints M w vm V) : Calls Try.prog 29 #[.pointer none, vm] w fun e w' => e = .returned (.int .i64 1) ∧ Mut (fun _ => False) w w' := by
  obtain ⟨a, c, rfl, -, -⟩ := hv.open
  clear hv
  go_enter Try.func29, Try.ntmps29
  go_wp2
  go_quiet (fail)
  go_wp2
  go_ret
  exact ⟨rfl, ((Mut.refl _ _).alloc _).drewN _⟩

theorem split_any (M : Nat → Prop) (vm : Value) (V : List Int) (w : World) (p u n : Nat) (R : List Int) (hP : Part w p u n R) (hv : Ints M w vm V) (hM : M u)
    (hwf : ∀ (i : Nat) x, V[i]? = some x → (Lit.int .i64 x).wf = true) :
    Calls Try.prog 29 #[.pointer (some ⟨p, 0, none⟩), vm] w (SplitPost w p u n R V) := by
  have hv0 := Lib.hid hv
  obtain ⟨a, c, rfl, hvl, -⟩ := hv.open
  have hult := hP.ult
  have hplt := hP.plt
  have hn := hP.small
  replace hP := Lib.hid hP
  replace hwf := Lib.hid hwf
  clear hv
  by_cases hl : V.length = n
  · have hd : ((V.length : Int) != (n : Int)) = false := by simp; omega
    replace hl := Lib.hid hl
    go_enter Try.func29, Try.ntmps29
    go_wp2
    go_quiet ((go_at_call 37; exact Calls.quiet_of_same ((len_any _ p u n R (by exact hP.out.mut (((Mut.refl (fun _ => False) w).alloc _).drewN _) (by simp) (by simp))).mono fun _ _ h => ⟨h.1, h.2.symm⟩)))
    go_wp2_with fail
    refine (keepB_any M V (.slice a V.length c) w.heap.size _ p u n R (by exact hP.out.mut (((Mut.refl (fun _ => False) w).alloc _).drewN _) (by simp) (by simp)) (by go_simp) (by omega) (by exact hv0.out.mut (((Mut.refl (fun _ => False) w).alloc _).drewN _) (by simp)) hM hl.out hwf.out).mono ?_
    rintro e w1 ⟨q, v, out, rfl, hq, hvv, hPq, hby, hPp, hm⟩
    obtain ⟨cq, hcq⟩ := hPq.hp
    obtain ⟨cp, hcp⟩ := hPp.hp
    have hfp := hPp.frozenP
    simp at hq hvv
    have hG := hPp.give hPq (by omega) hcq
    have hm' := (((Mut.refl (fun b => b = u ∨ b = p) w).alloc (.cells #[.slice a V.length c] 24)).drewN nq).trans (hm.mono (fun i _ e => .inl e))
    have H := Lib.hid (show SplitPost w p u n R V (.returned (.int .i64 0)) (w1.setCell ⟨p, 0, none⟩ (.slice (some ⟨v, 0, none⟩) n cq)) from
      .inr ⟨hl.out, v, out, rfl, by omega, hby, hG, hm'.setCell (p := ⟨p, 0, none⟩) (fun _ => .inr rfl) _⟩)
    clear hG hm' hm hPq hPp hby
    go_wp2
    go_ret
    exact H.out
  · have hd : ((V.length : Int) != (n : Int)) = true := by simp; omega
    replace hl := Lib.hid hl
    go_enter Try.func29, Try.ntmps29
    go_wp2
    go_quiet ((go_at_call 37; exact Calls.quiet_of_same ((len_any _ p u n R (by exact hP.out.mut (((Mut.refl (fun _ => False) w).alloc _).drewN _) (by simp) (by simp))).mono fun _ _ h => ⟨h.1, h.2.symm⟩)))
    go_wp2
    go_ret
    exact .inl ⟨hl.out, rfl, ((Mut.refl _ _).alloc _).drewN _⟩

/-! ### made -/
/-- What the law's list of unions comes to: from R, the first k pairs. -/
def foldPairs (n : Nat) (pairs : List (Int × Int)) : Nat → List Int
  | 0 => iota n
  | k + 1 => match pairs[k]? with
    | some (a, b) => if (thereB n a && thereB n b) = true then merged (foldPairs n pairs k) (max ((foldPairs n pairs k).getD a.toNat 0).toNat ((foldPairs n pairs k).getD b.toNat 0).toNat) (min ((foldPairs n pairs k).getD a.toNat 0).toNat ((foldPairs n pairs k).getD b.toNat 0).toNat) else foldPairs n pairs k
    | none => foldPairs n pairs k
end Go.Proofs.Ytojfpobgncapjaa
