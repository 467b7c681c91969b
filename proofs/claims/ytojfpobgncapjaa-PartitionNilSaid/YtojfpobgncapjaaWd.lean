/- Contracts of the reference There, Join, Finer. Condition: the arguments read as lists. -/
import Derived.Test.YtojfpobgncapjaaWc
set_option linter.unusedSimpArgs false
set_option linter.unusedVariables false
set_option maxHeartbeats 400000
namespace Go.Proofs.Ytojfpobgncapjaa
open Go Go.RowKit Go.PP

theorem Ints.slot {M : Nat → Prop} {w wr : World} {a : Option Addr} {n c : Nat} {xs : List Int} (h : Ints M w (.slice a n c) xs) (hm : Mut (fun _ => False) w wr) {k : Nat} (hk : k < xs.length) :
    ∃ b off x, a = some ⟨b, off, none⟩ ∧ xs[k]? = some x ∧ wr.cell? ⟨b, off + k, none⟩ = some (.int .i64 x) := by
  obtain ⟨_, _, he, -, hx⟩ := (h.mut hm (by simp)).open
  simp only [Value.slice.injEq] at he
  obtain ⟨rfl, -, rfl⟩ := he
  obtain ⟨b, off, x, h1, -, h2, h3⟩ := hx k hk
  exact ⟨b, off, x, h1, h2, h3⟩

/-! ### the reference: There -/
theorem rthere_any (M : Nat → Prop) (v : Value) (R : List Int) (x : Int) (w : World) (hv : Ints M w v R) :
    Calls Try.prog 13 #[v, .int .i64 x] w fun e w' => e = .returned (.bool (thereB R.length x)) ∧ w = w' := by
  obtain ⟨a, c, rfl, hl, -⟩ := hv.open
  clear hv
  unfold thereB
  by_cases h0 : 0 ≤ x
  · go_enter Try.func13, Try.ntmps13
    go_wp2
    go_ret
    exact ⟨by simp [h0], rfl⟩
  · have h0' : decide (0 ≤ x) = false := by simp; omega
    rw [h0']
    go_enter Try.func13, Try.ntmps13
    go_wp2
    go_ret
    exact ⟨by simp, rfl⟩

/-! ### the reference: Join -/
def RJoinPost (M : Nat → Prop) (w : World) (R : List Int) (x y : Nat) (e : Ending) (w' : World) : Prop :=
  ∃ v, e = .returned (.tuple #[v, .bool ((x : Int) != (y : Int))]) ∧ Ints M w' v (merged R (max x y) (min x y)) ∧ Mut (fun _ => False) w w'

theorem merged_take_succ (R : List Int) (m k i : Nat) (x : Int) (h : R[i]? = some x) : merged (R.take (i + 1)) m k = merged (R.take i) m k ++ [if x = (m : Int) then (k : Int) else x] := by
  obtain ⟨hlt, he⟩ := List.getElem?_eq_some_iff.1 h
  rw [List.take_succ_eq_append_getElem hlt, he]
  simp [merged]

theorem rjoin_any (M : Nat → Prop) (v : Value) (R : List Int) (i j x y : Nat) (w : World) (hv : Ints M w v R) (hM : ∀ b, M b → b < w.heap.size) (hn : R.length ≤ 4096)
    (hx : R[i]? = some (x : Int)) (hy : R[j]? = some (y : Int)) :
    Calls Try.prog 22 #[v, .int .i64 i, .int .i64 j] w (RJoinPost M w R x y) := by
  have hv0 := Lib.hid hv
  obtain ⟨a, c, rfl, hl, -⟩ := hv.open
  have hi : i < R.length := (List.getElem?_eq_some_iff.1 hx).1
  have hj : j < R.length := (List.getElem?_eq_some_iff.1 hy).1
  obtain ⟨b, off, x', rfl, h1, hc1⟩ := Ints.slot hv (Mut.refl _ _) hi
  obtain ⟨b', off', y', he, h2, hc2⟩ := Ints.slot hv (Mut.refl _ _) hj
  cases he
  rw [hx] at h1; cases h1
  rw [hy] at h2; cases h2
  clear hv
  replace hx := Lib.hid hx
  replace hy := Lib.hid hy
  rcases Nat.lt_trichotomy x y with hxy | hxy | hxy
  · have hmx := Lib.hid (Nat.max_eq_right (Nat.le_of_lt hxy))
    have hmn := Lib.hid (Nat.min_eq_left (Nat.le_of_lt hxy))
    have ht : ((x : Int) == (y : Int)) = false := by simp; omega
    have ht2 : ((x : Int) != (y : Int)) = true := by simp; omega
    replace ht2 := Lib.hid ht2
    have ht3 : decide (y < x) = false := by simp; omega
    go_enter Try.func22, Try.ntmps22
    go_wp2
    go_quiet (fail)
    go_wp2
    go_loopw [10, 11] (fun o i wr => ∃ k : Nat, k ≤ R.length ∧ i = .int .i64 k ∧ wr.ownsRow w.heap.size 3 1 o ((merged (R.take k) y x).map (Value.int .i64)).length ((merged (R.take k) y x).map (Value.int .i64)) ∧ Mut (fun _ => False) w wr) (fun _ i _ => R.length - (intOf i).toNat)
    case atStart => exact ⟨0, by omega, rfl, by exact World.ownsRow_nil _ _ _ _, (Mut.refl _ _).drewN _⟩
    case round =>
      obtain ⟨k, hk, rfl, hown, hm⟩ := hrel
      have hsz := hm.size
      by_cases hlt : k < R.length
      · obtain ⟨_, _, z, he, hz, hcz⟩ := Ints.slot hv0.out hm hlt
        cases he
        clear hc1 hc2
        replace hm := Lib.hid hm
        have hlen : ((merged (R.take k) y x).map (Value.int .i64)).length < 1099511627776 := by simp [merged_len]; omega
        by_cases hzy : z = (y : Int)
        · have hb := merged_take_succ R y x k z hz
          rw [if_pos hzy] at hb
          replace hb := Lib.hid hb
          replace hz := Lib.hid hz
          have ht : (z == (y : Int)) = true := by simp [hzy]
          clear hzy
          go_wp2_with (at_builtin; refine wpList_push rfl _ _ 25 rfl Try.underlying25 info3 rfl _ _ (.int .i64 (x : Nat)) rfl (hown.alloc _) _ rfl (by go_simp) rfl hlen (by decide) (by simp; omega) ?_; intro v' w1 hown1 hg1 hb1)
          go_roundw
          case rel => exact ⟨k + 1, by omega, by go_num, by rw [hb.out, List.map_append]; exact hown1, (hm.out.alloc _).grown hg1 (fun g hg hlt => by have := ownBlock_new hown g hg; omega)⟩
          case measure => simp [intOf]; omega
        · have hb := merged_take_succ R y x k z hz
          rw [if_neg hzy] at hb
          replace hb := Lib.hid hb
          replace hz := Lib.hid hz
          have ht : (z == (y : Int)) = false := by simp [hzy]
          clear hzy
          go_wp2_with (at_builtin; refine wpList_push rfl _ _ 25 rfl Try.underlying25 info3 rfl _ _ (.int .i64 z) rfl (hown.alloc _) _ rfl (by go_simp) rfl hlen (by decide) (by simp; omega) ?_; intro v' w1 hown1 hg1 hb1)
          go_roundw
          case rel => exact ⟨k + 1, by omega, by go_num, by rw [hb.out, List.map_append]; exact hown1, (hm.out.alloc _).grown hg1 (fun g hg hlt => by have := ownBlock_new hown g hg; omega)⟩
          case measure => simp [intOf]; omega
      · obtain rfl : k = R.length := by omega
        rw [List.take_length] at hown
        have H := Lib.hid (show RJoinPost M w R x y (.returned (.tuple #[u10, .bool true])) wr from ⟨u10, by rw [ht2.out], by rw [hmx.out, hmn.out]; exact SliceIn.of_owns hown (fun b hb hMb => by have := hM b hMb; omega), hm⟩)
        clear hown hm hv0
        go_wp2
        go_ret2
        exact H.out
  · subst hxy
    have ht : ((x : Int) == (x : Int)) = true := by simp
    go_enter Try.func22, Try.ntmps22
    go_wp2
    go_quiet (fail)
    go_wp2
    go_ret2
    exact ⟨_, by simp; rfl, by rw [Nat.max_self, Nat.min_self, merged_self]; exact hv0.out.mut ((Mut.refl (fun _ => False) _).drewN _) (by simp), (Mut.refl _ _).drewN _⟩
  · have hmx := Lib.hid (Nat.max_eq_left (Nat.le_of_lt hxy))
    have hmn := Lib.hid (Nat.min_eq_right (Nat.le_of_lt hxy))
    have ht : ((x : Int) == (y : Int)) = false := by simp; omega
    have ht2 : ((x : Int) != (y : Int)) = true := by simp; omega
    replace ht2 := Lib.hid ht2
    have ht3 : decide (y < x) = true := by simp; omega
    go_enter Try.func22, Try.ntmps22
    go_wp2
    go_quiet (fail)
    go_wp2
    go_loopw [10, 11] (fun o i wr => ∃ k : Nat, k ≤ R.length ∧ i = .int .i64 k ∧ wr.ownsRow w.heap.size 3 1 o ((merged (R.take k) x y).map (Value.int .i64)).length ((merged (R.take k) x y).map (Value.int .i64)) ∧ Mut (fun _ => False) w wr) (fun _ i _ => R.length - (intOf i).toNat)
    case atStart => exact ⟨0, by omega, rfl, by exact World.ownsRow_nil _ _ _ _, (Mut.refl _ _).drewN _⟩
    case round =>
      obtain ⟨k, hk, rfl, hown, hm⟩ := hrel
      have hsz := hm.size
      by_cases hlt : k < R.length
      · obtain ⟨_, _, z, he, hz, hcz⟩ := Ints.slot hv0.out hm hlt
        cases he
        clear hc1 hc2
        replace hm := Lib.hid hm
        have hlen : ((merged (R.take k) x y).map (Value.int .i64)).length < 1099511627776 := by simp [merged_len]; omega
        by_cases hzy : z = (x : Int)
        · have hb := merged_take_succ R x y k z hz
          rw [if_pos hzy] at hb
          replace hb := Lib.hid hb
          replace hz := Lib.hid hz
          have ht : (z == (x : Int)) = true := by simp [hzy]
          clear hzy
          go_wp2_with (at_builtin; refine wpList_push rfl _ _ 25 rfl Try.underlying25 info3 rfl _ _ (.int .i64 (y : Nat)) rfl (hown.alloc _) _ rfl (by go_simp) rfl hlen (by decide) (by simp; omega) ?_; intro v' w1 hown1 hg1 hb1)
          go_roundw
          case rel => exact ⟨k + 1, by omega, by go_num, by rw [hb.out, List.map_append]; exact hown1, (hm.out.alloc _).grown hg1 (fun g hg hlt => by have := ownBlock_new hown g hg; omega)⟩
          case measure => simp [intOf]; omega
        · have hb := merged_take_succ R x y k z hz
          rw [if_neg hzy] at hb
          replace hb := Lib.hid hb
          replace hz := Lib.hid hz
          have ht : (z == (x : Int)) = false := by simp [hzy]
          clear hzy
          go_wp2_with (at_builtin; refine wpList_push rfl _ _ 25 rfl Try.underlying25 info3 rfl _ _ (.int .i64 z) rfl (hown.alloc _) _ rfl (by go_simp) rfl hlen (by decide) (by simp; omega) ?_; intro v' w1 hown1 hg1 hb1)
          go_roundw
          case rel => exact ⟨k + 1, by omega, by go_num, by rw [hb.out, List.map_append]; exact hown1, (hm.out.alloc _).grown hg1 (fun g hg hlt => by have := ownBlock_new hown g hg; omega)⟩
          case measure => simp [intOf]; omega
      · obtain rfl : k = R.length := by omega
        rw [List.take_length] at hown
        have H := Lib.hid (show RJoinPost M w R x y (.returned (.tuple #[u10, .bool true])) wr from ⟨u10, by rw [ht2.out], by rw [hmx.out, hmn.out]; exact SliceIn.of_owns hown (fun b hb hMb => by have := hM b hMb; omega), hm⟩)
        clear hown hm hv0
        go_wp2
        go_ret2
        exact H.out

/-! ### the reference: Finer, at a finer one -/
theorem rfiner_any (M : Nat → Prop) (va vb : Value) (R V : List Int) (w : World) (ha : Ints M w va R) (hb : Ints M w vb V) (hn : R.length ≤ 4096) (hl : V.length = R.length)
    (hR : ∀ i : Nat, i < R.length → ∃ r : Nat, R[i]? = some (r : Int) ∧ r < R.length) :
    Calls Try.prog 36 #[va, vb] w fun e w' => e = .returned (.bool (decide (∀ i : Nat, i < R.length → V.getD i 0 = V.getD (R.getD i 0).toNat 0))) ∧ Mut (fun _ => False) w w' := by
  have ha0 := Lib.hid ha
  have hb0 := Lib.hid hb
  obtain ⟨a, c, rfl, -, -⟩ := ha.open
  obtain ⟨a', c', rfl, -, -⟩ := hb.open
  clear ha hb
  generalize hd : decide (∀ i : Nat, i < R.length → V.getD i 0 = V.getD (R.getD i 0).toNat 0) = d
  replace hd := Lib.hid hd
  replace hl := Lib.hid hl
  replace hR := Lib.hid hR
  go_enter Try.func36, Try.ntmps36
  go_wp2
  go_loopw [5] (fun i wr => ∃ k : Nat, k ≤ R.length ∧ i = .int .i64 k ∧ (∀ i : Nat, i < k → V.getD i 0 = V.getD (R.getD i 0).toNat 0) ∧ Mut (fun _ => False) w wr) (fun i _ => R.length - (intOf i).toNat)
  case atStart => exact ⟨0, Nat.zero_le _, rfl, by omega, Mut.refl _ _⟩
  case round =>
    obtain ⟨k, hk, rfl, hall, hm⟩ := hrel
    replace hall := Lib.hid hall
    by_cases hlt : k < R.length
    · obtain ⟨r, hr, hrl⟩ := hR.out k hlt
      obtain ⟨b, off, x, rfl, hx, hcx⟩ := Ints.slot ha0.out hm hlt
      rw [hr] at hx; cases hx
      obtain ⟨b', off', y, rfl, hy, hcy⟩ := Ints.slot hb0.out hm (k := k) (by rw [hl.out]; exact hlt)
      obtain ⟨_, _, z, he, hz, hcz⟩ := Ints.slot hb0.out hm (k := r) (by rw [hl.out]; exact hrl)
      cases he
      have hl2 := Lib.hid (show r < V.length by rw [hl.out]; exact hrl)
      have hl3 : V.length ≤ R.length := by rw [hl.out]; omega
      have hl4 : R.length ≤ V.length := by rw [hl.out]; omega
      have hval : (V.getD k 0 = V.getD (R.getD k 0).toNat 0) ↔ y = z := by
        simp only [List.getD, hy, hr, Option.getD_some, Int.toNat_natCast, hz]
      replace hval := Lib.hid hval
      clear ha0 hb0
      replace hr := Lib.hid hr
      replace hy := Lib.hid hy
      replace hz := Lib.hid hz
      replace hm := Lib.hid hm
      by_cases hyz : y = z
      · subst hyz
        have ht : (y != y) = false := by simp
        go_wp2
        go_quiet (fail)
        go_wp2
        go_roundw
        case rel => exact ⟨k + 1, by omega, by go_num, fun i hi => by
          rcases Nat.lt_or_ge i k with h | h
          · exact hall.out i h
          · obtain rfl : i = k := by omega
            exact hval.out.2 trivial, hm.out.drewN _⟩
        case measure => simp [intOf]; omega
      · have ht : (y != z) = true := by simp [hyz]
        have hdf : d = false := by
          rw [← hd.out, decide_eq_false_iff_not]
          intro h
          exact hyz (hval.out.1 (h k hlt))
        subst hdf
        clear hyz
        go_wp2
        go_quiet (fail)
        go_wp2
        go_ret
        exact ⟨rfl, hm.out.drewN _⟩
    · have hdt : d = true := by
        rw [← hd.out, decide_eq_true_eq]
        intro i hi
        exact hall.out i (by omega)
      subst hdt
      clear ha0 hb0
      replace hm := Lib.hid hm
      go_wp2
      go_ret
      exact ⟨rfl, hm.out⟩
end Go.Proofs.Ytojfpobgncapjaa
