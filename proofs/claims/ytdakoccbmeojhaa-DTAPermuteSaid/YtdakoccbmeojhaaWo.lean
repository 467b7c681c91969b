/- Contracts: the library's Clone of slices. Condition: slices in memory with at most 4096 elements. -/
import Derived.Test.YtdakoccbmeojhaaWn
import Derived.Lib.SliceRun
set_option linter.unusedSimpArgs false
set_option linter.unusedVariables false
set_option maxHeartbeats 400000
namespace Go.Proofs.Ytdakoccbmeojhaa
open Go Go.RowKit Go.PP

theorem info4 : (Try.prog.info? 4).map (fun i => (i.zero, i.size, i.bytes)) = some (some (.bool false), 1, 1) := by kernel_rfl

/-- The result is a row of the call's own with these cells; nothing that was there has changed. -/
def CopyPost (w : World) (el : TypeId) (cs : List Value) (e : Ending) (w' : World) : Prop :=
  ∃ v, e = .returned v ∧ w'.ownsRow w.heap.size el 1 v cs.length cs ∧ Fix w w'

set_option maxRecDepth 8000 in
set_option maxHeartbeats 2000000 in
theorem copy59 (v : Value) (cs : List Value) (w : World) (hv : SliceIn (fun _ => False) w v cs) (hn : cs.length ≤ 4096) (h1 : ∀ u ∈ cs, u.oneCell' = true) : Calls Try.prog 59 #[v] w (CopyPost w 3 cs) := by
  obtain ⟨a, c, rfl, -, hcell⟩ := hv
  have q24 : ∀ (w : World) (a : Option Addr) (n c n' c' : Nat), (binOp .eql 33 (.slice a n c) (.slice none n' c')).run Try.prog w = .ok (.bool a.isNone) w := fun w a n c n' c' => Go.Lib.run_eql_slice_nil w _ _ a n c n' c' Try.underlying33
  rcases a with _ | p
  · have hcs : cs = [] := by
      rcases cs with _ | ⟨u, cs⟩
      · rfl
      · obtain ⟨b, off, u, q1, _⟩ := hcell 0 (by simp)
        cases q1
    subst hcs
    clear hcell h1 hn
    show Calls Try.prog 59 #[.slice none 0 c] w (CopyPost w 3 [])
    go_enter Try.func59, Try.ntmps59
    go_wp2
    go_ret
    exact ⟨_, rfl, World.ownsRow_nil _ _ _ _, Mut.refl _ _⟩
  · have hcell2 : ∀ (j : Nat) x, cs[j]? = some x → w.cell? (p.add j) = some x := fun j x hj => by
      have hjn := (List.getElem?_eq_some_iff.1 hj).1
      obtain ⟨b, off, u, q1, -, q3, q4⟩ := hcell j hjn
      simp only [Option.some.injEq] at q1
      subst q1
      rw [hj, Option.some.injEq] at q3
      subst q3
      rw [Addr.add_lit]; exact q4
    replace hcell2 := Lib.hid hcell2
    clear hcell
    replace h1 := Lib.hid h1
    obtain ⟨i0, hi, hz0, hz1, hz2⟩ := info_parts info3
    replace hi := Lib.hid hi
    replace hz0 := Lib.hid hz0
    replace hz1 := Lib.hid hz1
    replace hz2 := Lib.hid hz2
    generalize hlen : cs.length = n
    rw [hlen] at hn
    replace hlen := Lib.hid hlen
    go_enter Try.func59, Try.ntmps59
    go_wp2_with (at_builtin; refine wpList_append_own _ rfl _ _ 33 rfl w.heap.size 3 i0 (.int .i64 0) 1 8 Try.underlying33 hi.out hz0.out hz1.out hz2.out rfl (by decide) _ _ _ rfl (World.ownsRow_made w #[] 0 (Nat.le_refl _) (Nat.zero_le _) rfl) p n c cs rfl ?qc1 ?qc2 ?qc3 ?qc4 ?qc5 ?qc6 ?_)
    case qc1 => simp [hlen.out]
    case qc2 => exact fun j x hj => Lib.cell?_alloc_some _ (hcell2.out j x hj)
    case qc3 => exact h1.out
    case qc4 => unfold maxLen; omega
    case qc5 => omega
    case qc6 => simp
    intro v' w1 hown hgrow hnil
    have H : CopyPost w 3 cs (.returned v') w1 := by
      refine ⟨v', rfl, by rw [hlen.out]; simpa using hown, Mut.of_below (((Below.refl _ w).alloc (Nat.le_refl _) _).grown hgrow (by simp) (by intro k hk; simp [Value.ownBlock] at hk; omega)) _⟩
    replace H := Lib.hid H
    clear hown hgrow hnil
    go_wp2
    go_ret
    exact H.out

set_option maxRecDepth 8000 in
set_option maxHeartbeats 2000000 in
theorem copy60 (v : Value) (cs : List Value) (w : World) (hv : SliceIn (fun _ => False) w v cs) (hn : cs.length ≤ 4096) (h1 : ∀ u ∈ cs, u.oneCell' = true) : Calls Try.prog 60 #[v] w (CopyPost w 4 cs) := by
  obtain ⟨a, c, rfl, -, hcell⟩ := hv
  have q24 : ∀ (w : World) (a : Option Addr) (n c n' c' : Nat), (binOp .eql 23 (.slice a n c) (.slice none n' c')).run Try.prog w = .ok (.bool a.isNone) w := fun w a n c n' c' => Go.Lib.run_eql_slice_nil w _ _ a n c n' c' Try.underlying23
  rcases a with _ | p
  · have hcs : cs = [] := by
      rcases cs with _ | ⟨u, cs⟩
      · rfl
      · obtain ⟨b, off, u, q1, _⟩ := hcell 0 (by simp)
        cases q1
    subst hcs
    clear hcell h1 hn
    show Calls Try.prog 60 #[.slice none 0 c] w (CopyPost w 4 [])
    go_enter Try.func60, Try.ntmps60
    go_wp2
    go_ret
    exact ⟨_, rfl, World.ownsRow_nil _ _ _ _, Mut.refl _ _⟩
  · have hcell2 : ∀ (j : Nat) x, cs[j]? = some x → w.cell? (p.add j) = some x := fun j x hj => by
      have hjn := (List.getElem?_eq_some_iff.1 hj).1
      obtain ⟨b, off, u, q1, -, q3, q4⟩ := hcell j hjn
      simp only [Option.some.injEq] at q1
      subst q1
      rw [hj, Option.some.injEq] at q3
      subst q3
      rw [Addr.add_lit]; exact q4
    replace hcell2 := Lib.hid hcell2
    clear hcell
    replace h1 := Lib.hid h1
    obtain ⟨i0, hi, hz0, hz1, hz2⟩ := info_parts info4
    replace hi := Lib.hid hi
    replace hz0 := Lib.hid hz0
    replace hz1 := Lib.hid hz1
    replace hz2 := Lib.hid hz2
    generalize hlen : cs.length = n
    rw [hlen] at hn
    replace hlen := Lib.hid hlen
    go_enter Try.func60, Try.ntmps60
    go_wp2_with (at_builtin; refine wpList_append_own _ rfl _ _ 23 rfl w.heap.size 4 i0 (.bool false) 1 1 Try.underlying23 hi.out hz0.out hz1.out hz2.out rfl (by decide) _ _ _ rfl (World.ownsRow_made w #[] 0 (Nat.le_refl _) (Nat.zero_le _) rfl) p n c cs rfl ?qc1 ?qc2 ?qc3 ?qc4 ?qc5 ?qc6 ?_)
    case qc1 => simp [hlen.out]
    case qc2 => exact fun j x hj => Lib.cell?_alloc_some _ (hcell2.out j x hj)
    case qc3 => exact h1.out
    case qc4 => unfold maxLen; omega
    case qc5 => omega
    case qc6 => simp
    intro v' w1 hown hgrow hnil
    have H : CopyPost w 4 cs (.returned v') w1 := by
      refine ⟨v', rfl, by rw [hlen.out]; simpa using hown, Mut.of_below (((Below.refl _ w).alloc (Nat.le_refl _) _).grown hgrow (by simp) (by intro k hk; simp [Value.ownBlock] at hk; omega)) _⟩
    replace H := Lib.hid H
    clear hown hgrow hnil
    go_wp2
    go_ret
    exact H.out

set_option maxRecDepth 8000 in
set_option maxHeartbeats 2000000 in
theorem copy61 (v : Value) (cs : List Value) (w : World) (hv : SliceIn (fun _ => False) w v cs) (hn : cs.length ≤ 4096) (h1 : ∀ u ∈ cs, u.oneCell' = true) : Calls Try.prog 61 #[v] w (CopyPost w 3 cs) := by
  obtain ⟨a, c, rfl, -, hcell⟩ := hv
  have q24 : ∀ (w : World) (a : Option Addr) (n c n' c' : Nat), (binOp .eql 22 (.slice a n c) (.slice none n' c')).run Try.prog w = .ok (.bool a.isNone) w := fun w a n c n' c' => Go.Lib.run_eql_slice_nil w _ _ a n c n' c' Try.underlying22
  rcases a with _ | p
  · have hcs : cs = [] := by
      rcases cs with _ | ⟨u, cs⟩
      · rfl
      · obtain ⟨b, off, u, q1, _⟩ := hcell 0 (by simp)
        cases q1
    subst hcs
    clear hcell h1 hn
    show Calls Try.prog 61 #[.slice none 0 c] w (CopyPost w 3 [])
    go_enter Try.func61, Try.ntmps61
    go_wp2
    go_ret
    exact ⟨_, rfl, World.ownsRow_nil _ _ _ _, Mut.refl _ _⟩
  · have hcell2 : ∀ (j : Nat) x, cs[j]? = some x → w.cell? (p.add j) = some x := fun j x hj => by
      have hjn := (List.getElem?_eq_some_iff.1 hj).1
      obtain ⟨b, off, u, q1, -, q3, q4⟩ := hcell j hjn
      simp only [Option.some.injEq] at q1
      subst q1
      rw [hj, Option.some.injEq] at q3
      subst q3
      rw [Addr.add_lit]; exact q4
    replace hcell2 := Lib.hid hcell2
    clear hcell
    replace h1 := Lib.hid h1
    obtain ⟨i0, hi, hz0, hz1, hz2⟩ := info_parts info3
    replace hi := Lib.hid hi
    replace hz0 := Lib.hid hz0
    replace hz1 := Lib.hid hz1
    replace hz2 := Lib.hid hz2
    generalize hlen : cs.length = n
    rw [hlen] at hn
    replace hlen := Lib.hid hlen
    go_enter Try.func61, Try.ntmps61
    go_wp2_with (at_builtin; refine wpList_append_own _ rfl _ _ 22 rfl w.heap.size 3 i0 (.int .i64 0) 1 8 Try.underlying22 hi.out hz0.out hz1.out hz2.out rfl (by decide) _ _ _ rfl (World.ownsRow_made w #[] 0 (Nat.le_refl _) (Nat.zero_le _) rfl) p n c cs rfl ?qc1 ?qc2 ?qc3 ?qc4 ?qc5 ?qc6 ?_)
    case qc1 => simp [hlen.out]
    case qc2 => exact fun j x hj => Lib.cell?_alloc_some _ (hcell2.out j x hj)
    case qc3 => exact h1.out
    case qc4 => unfold maxLen; omega
    case qc5 => omega
    case qc6 => simp
    intro v' w1 hown hgrow hnil
    have H : CopyPost w 3 cs (.returned v') w1 := by
      refine ⟨v', rfl, by rw [hlen.out]; simpa using hown, Mut.of_below (((Below.refl _ w).alloc (Nat.le_refl _) _).grown hgrow (by simp) (by intro k hk; simp [Value.ownBlock] at hk; omega)) _⟩
    replace H := Lib.hid H
    clear hown hgrow hnil
    go_wp2
    go_ret
    exact H.out
end Go.Proofs.Ytdakoccbmeojhaa
