/- Contract of the reference by. Condition: the arguments read as lists. -/
import Derived.Test.YtojfpobgncapjaaWd
set_option linter.unusedSimpArgs false
set_option linter.unusedVariables false
set_option maxHeartbeats 400000
namespace Go.Proofs.Ytojfpobgncapjaa
open Go Go.RowKit Go.PP

theorem info24 : (Try.prog.info? 24).map (fun i => (i.zero, i.size, i.bytes)) = some (some (.slice none 0 0), 1, 24) := by kernel_rfl

/-! ### the reference: by -/
/-- k is the least number at which both lists read as they do at i. -/
def Least (a b : List Int) (i k : Nat) : Prop := k ≤ i ∧ a[k]? = a[i]? ∧ b[k]? = b[i]? ∧ ∀ j, j < k → ¬ (a[j]? = a[i]? ∧ b[j]? = b[i]?)
theorem Least.unique {a b : List Int} {i k l : Nat} (h : Least a b i k) (h' : Least a b i l) : k = l := by
  rcases Nat.lt_trichotomy k l with e | e | e
  · exact absurd ⟨h.2.1, h.2.2.1⟩ (h'.2.2.2 k e)
  · exact e
  · exact absurd ⟨h'.2.1, h'.2.2.1⟩ (h.2.2.2 l e)
/-- The list of the least numbers. -/
def IsBy (a b : List Int) (n : Nat) (out : List Int) : Prop := out.length = n ∧ ∀ i, i < n → ∃ k : Nat, out[i]? = some (k : Int) ∧ Least a b i k
theorem IsBy.snoc {a b : List Int} {n : Nat} {out : List Int} (h : IsBy a b n out) {k : Nat} (hk : Least a b n k) : IsBy a b (n + 1) (out ++ [(k : Int)]) := by
  refine ⟨by simp [h.1], fun i hi => ?_⟩
  rcases Nat.lt_or_ge i n with e | e
  · obtain ⟨l, h1, h2⟩ := h.2 i e
    exact ⟨l, by rw [List.getElem?_append_left (by rw [h.1]; exact e)]; exact h1, h2⟩
  · obtain rfl : i = n := by omega
    exact ⟨k, by rw [← h.1, List.getElem?_append_right (Nat.le_refl _)]; simp, hk⟩
theorem IsBy.unique {a b : List Int} {n : Nat} {o1 o2 : List Int} (h : IsBy a b n o1) (h' : IsBy a b n o2) : o1 = o2 := by
  refine List.ext_getElem? fun i => ?_
  rcases Nat.lt_or_ge i n with e | e
  · obtain ⟨k, h1, h2⟩ := h.2 i e
    obtain ⟨l, h3, h4⟩ := h'.2 i e
    rw [h1, h3, h2.unique h4]
  · rw [List.getElem?_eq_none (by rw [h.1]; exact e), List.getElem?_eq_none (by rw [h'.1]; exact e)]

def ByPost (M : Nat → Prop) (w : World) (a b : List Int) (e : Ending) (w' : World) : Prop :=
  ∃ v out, e = .returned v ∧ Ints M w' v out ∧ IsBy a b a.length out ∧ Mut (fun _ => False) w w'

theorem rby_any (M : Nat → Prop) (va vb : Value) (A B : List Int) (w : World) (ha : Ints M w va A) (hb : Ints M w vb B) (hM : ∀ b, M b → b < w.heap.size) (hn : A.length ≤ 4096) (hl : A.length = B.length) :
    Calls Try.prog 47 #[va, vb] w (ByPost M w A B) := by
  have ha0 := Lib.hid ha
  have hb0 := Lib.hid hb
  obtain ⟨a, c, rfl, -, -⟩ := ha.open
  obtain ⟨a', c', rfl, -, -⟩ := hb.open
  clear ha hb
  replace hl := Lib.hid hl
  replace hM := Lib.hid hM
  go_enter Try.func47, Try.ntmps47
  go_wp2
  go_loopw [5, 6] (fun o i wr => ∃ (k : Nat) (out : List Int), k ≤ A.length ∧ i = .int .i64 k ∧ IsBy A B k out ∧ wr.ownsRow w.heap.size 3 1 o (out.map (Value.int .i64)).length (out.map (Value.int .i64)) ∧ Mut (fun _ => False) w wr) (fun _ i _ => A.length - (intOf i).toNat)
  case atStart => exact ⟨0, [], by omega, rfl, ⟨rfl, by omega⟩, by exact World.ownsRow_nil _ _ _ _, Mut.refl _ _⟩
  case round =>
    obtain ⟨k, out, hk, rfl, hby, hown, hm⟩ := hrel
    have hsz := hm.size
    by_cases hlt : k < A.length
    · have hm0 := hm
      replace hm := Lib.hid hm
      replace hown := Lib.hid hown
      replace hby := Lib.hid hby
      go_wp2
      obtain ⟨wo, hwo⟩ : ∃ wo : World, wo = wr := ⟨_, rfl⟩
      go_loopw [7] (fun q wi => ∃ (j nq : Nat), j ≤ k ∧ q = .int .i64 j ∧ wi = wr.drewN nq ∧ ∀ l, l < j → ¬ (A[l]? = A[k]? ∧ B[l]? = B[k]?)) (fun q _ => k - (intOf q).toNat)
      case atStart => exact ⟨0, 0, by omega, rfl, rfl, by omega⟩
      case round =>
        obtain ⟨j, nq, hj, rfl, rfl, hall⟩ := hrel
        obtain ⟨b, off, x, rfl, hx, hcx⟩ := Ints.slot ha0.out hm0 hlt
        obtain ⟨_, _, y, he, hy, hcy⟩ := Ints.slot ha0.out hm0 (k := j) (by omega)
        cases he
        obtain ⟨b', off', x', rfl, hx', hcx'⟩ := Ints.slot hb0.out hm0 (k := k) (by rw [← hl.out]; exact hlt)
        obtain ⟨_, _, y', he, hy', hcy'⟩ := Ints.slot hb0.out hm0 (k := j) (by rw [← hl.out]; omega)
        cases he
        have hlb : k < B.length := by rw [← hl.out]; exact hlt
        have hjb : j < B.length := by omega
        have hja : j < A.length := by omega
        have hiff : (A[j]? = A[k]? ∧ B[j]? = B[k]?) ↔ (y = x ∧ y' = x') := by rw [hx, hy, hx', hy']; simp
        have hjk : j = k → (y = x ∧ y' = x') := fun e => hiff.1 (by subst e; exact ⟨rfl, rfl⟩)
        replace hiff := Lib.hid hiff
        replace hall := Lib.hid hall
        clear ha0 hb0 hx hy hx' hy' hm0
        by_cases h1 : y = x
        · by_cases h2 : y' = x'
          · have t1 : (y != x) = false := by simp [h1]
            have t2 : (y' != x') = false := by simp [h2]
            have hL := Lib.hid (show Least A B k j from ⟨hj, (hiff.out.2 ⟨h1, h2⟩).1, (hiff.out.2 ⟨h1, h2⟩).2, hall.out⟩)
            replace hjk := Lib.hid hjk
            clear h1 h2
            have hlen : (out.map (Value.int .i64)).length < 1099511627776 := by have := hby.out.1; simp; omega
            replace hown := hown.out
            go_wp2
            go_quiet (fail)
            go_wp2_with (at_builtin; refine wpList_push rfl _ _ 25 rfl Try.underlying25 info3 rfl _ _ (.int .i64 j) rfl ((ownsRow_mut hown ((Mut.refl (fun _ => False) wr).drewN _) (by simp)).alloc _) _ rfl (by exact cell_new1 _ _ _) rfl hlen (by decide) (by simp; omega) ?_; intro v' w1 hown1 hg1 hb1)
            go_roundw
            case rel => exact ⟨k + 1, out ++ [(j : Int)], by omega, by go_num, hby.out.snoc hL.out, by rw [List.map_append]; exact hown1, ((hm.out.drewN _).alloc _).grown hg1 (fun g hg hlt => by have := ownBlock_new hown g hg; omega)⟩
            case measure => simp [intOf]; omega
          · have t1 : (y != x) = false := by simp [h1]
            have t2 : (y' != x') = true := by simp [h2]
            have hne : j < k := by
              rcases Nat.lt_or_ge j k with h | h
              · exact h
              · exact absurd (hjk (by omega)).2 h2
            have hn' := Lib.hid (show ¬ (A[j]? = A[k]? ∧ B[j]? = B[k]?) from fun h => h2 (hiff.out.1 h).2)
            replace hjk := Lib.hid hjk
            clear h1 h2
            go_wp2
            go_quiet (fail)
            go_wp2
            go_roundw
            case rel => exact ⟨j + 1, _, by omega, by go_num, rfl, fun l hl => by
              rcases Nat.lt_or_ge l j with h | h
              · exact hall.out l h
              · obtain rfl : l = j := by omega
                exact hn'.out⟩
            case measure => simp [intOf]; omega
        · have t1 : (y != x) = true := by simp [h1]
          have hne : j < k := by
            rcases Nat.lt_or_ge j k with h | h
            · exact h
            · exact absurd (hjk (by omega)).1 h1
          have hn' := Lib.hid (show ¬ (A[j]? = A[k]? ∧ B[j]? = B[k]?) from fun h => h1 (hiff.out.1 h).1)
          replace hjk := Lib.hid hjk
          clear h1
          go_wp2
          go_quiet (fail)
          go_wp2
          go_roundw
          case rel => exact ⟨j + 1, _, by omega, by go_num, rfl, fun l hl => by
            rcases Nat.lt_or_ge l j with h | h
            · exact hall.out l h
            · obtain rfl : l = j := by omega
              exact hn'.out⟩
          case measure => simp [intOf]; omega
    · obtain rfl : k = A.length := by omega
      have H := Lib.hid (show ByPost M w A B (.returned u5) wr from ⟨u5, out, rfl, SliceIn.of_owns hown (fun b hb hMb => by have := hM.out b hMb; omega), hby, hm⟩)
      clear hown hm ha0 hb0 hby
      go_wp2
      go_ret
      exact H.out
end Go.Proofs.Ytojfpobgncapjaa
