/- Contracts of Clone, like, Refines and Equal. Condition: partitions in memory, each with its own up-block. -/
import Derived.Test.YtojfpobgncapjaaWo
import Derived.Lib.SliceRun
set_option linter.unusedSimpArgs false
set_option linter.unusedVariables false
set_option maxHeartbeats 400000
namespace Go.Proofs.Ytojfpobgncapjaa
open Go Go.RowKit Go.PP

def CopyPost (w : World) (n : Nat) (xs : List Int) (e : Ending) (w' : World) : Prop :=
  ∃ (v c : Nat) (cur : Array Value), e = .returned (.slice (some ⟨v, 0, none⟩) n c) ∧ w.heap.size ≤ v ∧ w'.heap[v]? = some (.cells cur 3 (0, 0)) ∧
    (∀ i : Nat, i < n → cur[i]? = (xs[i]?).map (Value.int .i64)) ∧ Mut (fun _ => False) w w'

theorem ownsRow_open {w : World} {B : Nat} {e : TypeId} {v : Value} {n : Nat} {xs : List Int} (h : w.ownsRow B e 1 v n (xs.map (Value.int .i64))) (hv : v ≠ .slice none 0 0) :
    ∃ (g c : Nat) (cur : Array Value), v = .slice (some ⟨g, 0, none⟩) n c ∧ B ≤ g ∧ w.heap[g]? = some (.cells cur e (0, 0)) ∧ ∀ i : Nat, i < n → cur[i]? = (xs[i]?).map (Value.int .i64) := by
  obtain ⟨h1, h2⟩ := h
  rcases h2 with ⟨rfl, -⟩ | ⟨g, cap, cur, rfl, hg, hh, hn, hm, hc, ht⟩
  · exact absurd rfl hv
  · simp only [List.length_map, Nat.mul_one] at h1
    refine ⟨g, cap, cur, rfl, hg, hh, fun i hi => ?_⟩
    rw [← Array.getElem?_toList, ← List.getElem?_map, ← ht, List.getElem?_take, if_pos (by omega)]

set_option maxHeartbeats 2000000 in
theorem cloneS_any (u n c : Nat) (cur : Array Value) (xs : List Int) (w : World) (hl : xs.length = n) (hn : n ≤ 4096) (hu : w.heap[u]? = some (.cells cur 3 (0, 0))) (hcur : ∀ i : Nat, i < n → cur[i]? = (xs[i]?).map (Value.int .i64)) :
    Calls Try.prog 45 #[.slice (some ⟨u, 0, none⟩) n c] w (CopyPost w n xs) := by
  have hcell : ∀ j, j < n → w.cell? ⟨u, j, none⟩ = (xs[j]?).map (Value.int .i64) := fun j hj => by simp [World.cell?, hu, hcur j hj]
  replace hcell := Lib.hid hcell
  clear hcur hu
  obtain ⟨i0, hi, hz0, hz1, hz2⟩ := info_parts info3
  replace hi := Lib.hid hi
  replace hz0 := Lib.hid hz0
  replace hz1 := Lib.hid hz1
  replace hz2 := Lib.hid hz2
  replace hl := Lib.hid hl
  have q24 : ∀ (w : World) (a : Option Addr) (n c n' c' : Nat), (binOp .eql 24 (.slice a n c) (.slice none n' c')).run Try.prog w = .ok (.bool a.isNone) w := fun w a n c n' c' => Go.Lib.run_eql_slice_nil w _ _ a n c n' c' Try.underlying24
  go_enter Try.func45, Try.ntmps45
  go_wp2_with (at_builtin; refine wpList_append_own _ rfl _ _ 24 rfl w.heap.size 3 i0 (.int .i64 0) 1 8 Try.underlying24 hi.out hz0.out hz1.out hz2.out rfl (by decide) _ _ _ rfl (World.ownsRow_made w #[] 0 (Nat.le_refl _) (Nat.zero_le _) rfl) ⟨u, 0, none⟩ n c (xs.map (Value.int .i64)) rfl ?qc1 ?qc2 ?qc3 ?qc4 ?qc5 ?qc6 ?_)
  case qc1 => simp [hl.out]
  case qc2 =>
    intro j x hj
    have hjn : j < n := by
      have := (List.getElem?_eq_some_iff.1 hj).1
      simpa [hl.out] using this
    rw [Addr.add_lit]
    refine Lib.cell?_alloc_some _ ?_
    rw [Nat.zero_add, hcell.out j hjn, ← hj, List.getElem?_map]
  case qc3 => intro u hu; obtain ⟨x, _, rfl⟩ := List.mem_map.1 hu; rfl
  case qc4 => unfold maxLen; omega
  case qc5 => omega
  case qc6 => simp
  intro v' w1 hown hgrow hnil
  have H : CopyPost w n xs (.returned v') w1 := by
    obtain ⟨g, c', cur', rfl, h1, h2, h3⟩ := ownsRow_open (n := n) (xs := xs) (by simpa using hown) hnil
    exact ⟨g, c', cur', rfl, h1, h2, h3, Mut.of_below (((Below.refl _ w).alloc (Nat.le_refl _) _).grown hgrow (by simp) (by intro k hk; simp [Value.ownBlock] at hk; omega)) _⟩
  replace H := Lib.hid H
  clear hown hgrow hnil
  go_wp2
  go_ret
  exact H.out

theorem clone_nil (w : World) : Calls Try.prog 28 #[.pointer none] w fun e w' => e = .returned (.pointer none) ∧ w = w' := by
  go_enter Try.func28, Try.ntmps28
  go_wp2
  go_ret
  exact ⟨rfl, rfl⟩

def ClonePost (w : World) (p u n : Nat) (R : List Int) (e : Ending) (w' : World) : Prop :=
  ∃ q v : Nat, e = .returned (.pointer (some ⟨q, 0, none⟩)) ∧ w.heap.size ≤ q ∧ w.heap.size ≤ v ∧ Part w' q v n R ∧ Part w' p u n R ∧ Mut (fun _ => False) w w'

theorem clone_any (w : World) (p u n : Nat) (R : List Int) (hP : Part w p u n R) : Calls Try.prog 28 #[.pointer (some ⟨p, 0, none⟩)] w (ClonePost w p u n R) := by
  have hP0 := Lib.hid hP
  obtain ⟨h1, h2, c, cur, xs, h3, h4, h5, h6⟩ := hP
  have hc : w.cell? ⟨p, 0, none⟩ = some (.slice (some ⟨u, 0, none⟩) n c) := by simp [World.cell?, h3]
  have hl : xs.length = n := by rw [h6.len, h1]
  replace h3 := Lib.hid h3
  replace h4 := Lib.hid h4
  replace h5 := Lib.hid h5
  replace h1 := Lib.hid h1
  replace hl := Lib.hid hl
  go_enter Try.func28, Try.ntmps28
  go_wp2_with fail
  refine (cloneS_any u n c cur xs w hl.out h2 h4.out h5.out).mono ?_
  rintro e w1 ⟨v, c', cur', rfl, hv, hh, hcur, hm⟩
  have H : ClonePost w p u n R (.returned (.pointer (some ⟨w1.heap.size, 0, none⟩))) (w1.alloc (.cells #[.slice (some ⟨v, 0, none⟩) n c'] 70 (0, 0))) := by
    have hm' := hm.alloc (.cells #[.slice (some ⟨v, 0, none⟩) n c'] 70 (0, 0))
    refine ⟨w1.heap.size, v, rfl, hm.size, hv, ⟨h1.out, h2, c', cur', xs, ?_, ?_, hcur, h6⟩, hP0.out.mut hm' (by simp) (by simp), hm'⟩
    · show (w1.heap.push _)[w1.heap.size]? = _
      simp
    · exact ((Mut.refl (fun _ => False) w1).alloc _).heap hh (by simp)
  replace H := Lib.hid H
  clear hv hh hcur hm h3 h4 h5 hP0
  go_wp2
  go_ret
  exact H.out

theorem like_nilL (o : Value) (w : World) : Calls Try.prog 43 #[.pointer none, o] w fun e w' => e = .returned (.bool false) ∧ w = w' := by
  go_enter Try.func43, Try.ntmps43
  go_wp2
  go_ret
  exact ⟨rfl, rfl⟩

theorem like_nilR (p : Nat) (w : World) : Calls Try.prog 43 #[.pointer (some ⟨p, 0, none⟩), .pointer none] w fun e w' => e = .returned (.bool false) ∧ w = w' := by
  go_enter Try.func43, Try.ntmps43
  go_wp2
  go_ret
  exact ⟨rfl, rfl⟩

theorem like_any (w : World) (p u n : Nat) (R : List Int) (q v m : Nat) (V : List Int) (hP : Part w p u n R) (hQ : Part w q v m V) :
    Calls Try.prog 43 #[.pointer (some ⟨p, 0, none⟩), .pointer (some ⟨q, 0, none⟩)] w fun e w' => e = .returned (.bool ((n : Int) == (m : Int))) ∧ w = w' := by
  replace hP := Lib.hid hP
  replace hQ := Lib.hid hQ
  generalize hb : ((n : Int) == (m : Int)) = b
  replace hb := Lib.hid hb
  go_enter Try.func43, Try.ntmps43
  go_wp2_with fail
  refine (len_any _ p u n R hP.out).mono ?_
  rintro e w1 ⟨rfl, rfl⟩
  go_wp2_with fail
  refine (len_any _ q v m V hQ.out).mono ?_
  rintro e w1 ⟨rfl, rfl⟩
  have hb' := hb.out
  go_wp2
  go_ret
  exact ⟨rfl, rfl⟩
end Go.Proofs.Ytojfpobgncapjaa
