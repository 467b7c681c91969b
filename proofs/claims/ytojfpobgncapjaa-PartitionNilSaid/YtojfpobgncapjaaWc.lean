/- Contracts of the reference New, Same, Alike, Block. Condition: the arguments read as lists. -/
import Derived.Test.YtojfpobgncapjaaWb
set_option linter.unusedSimpArgs false
set_option linter.unusedVariables false
set_option maxHeartbeats 400000
namespace Go.Proofs.Ytojfpobgncapjaa
open Go Go.RowKit Go.PP

theorem info3 : (Try.prog.info? 3).map (fun i => (i.zero, i.size, i.bytes)) = some (some (.int .i64 0), 1, 8) := by kernel_rfl

/-! ### the reference: New -/
def iota (n : Nat) : List Int := (List.range n).map fun i : Nat => (i : Int)
theorem iota_succ (n : Nat) : iota (n + 1) = iota n ++ [(n : Int)] := by simp [iota, List.range_succ]
theorem iota_len (n : Nat) : (iota n).length = n := by simp [iota]

def RNewPost (M : Nat → Prop) (w : World) (n : Nat) (e : Ending) (w' : World) : Prop :=
  ∃ v, e = .returned (.tuple #[v, .bool true]) ∧ Ints M w' v (iota n) ∧ Mut (fun _ => False) w w'

theorem rnew_no (n : Int) (w : World) (h : n < 0 ∨ 4096 < n) : Calls Try.prog 18 #[.int .i64 n] w fun e w' => e = .returned (.tuple #[.slice none 0 0, .bool false]) ∧ w = w' := by
  rcases h with h | h
  · go_enter Try.func18, Try.ntmps18
    go_wp2
    go_ret2
    exact ⟨rfl, rfl⟩
  · have h' : ¬ n < 0 := by omega
    go_enter Try.func18, Try.ntmps18
    go_wp2
    go_ret2
    exact ⟨rfl, rfl⟩

theorem rnew_any (M : Nat → Prop) (n : Nat) (w : World) (hn : n ≤ 4096) (hM : ∀ b, M b → b < w.heap.size) : Calls Try.prog 18 #[.int .i64 n] w (RNewPost M w n) := by
  have h0 : ¬ (n : Int) < 0 := by omega
  go_enter Try.func18, Try.ntmps18
  go_wp2
  go_loopw [4, 5] (fun v i wr => ∃ k : Nat, k ≤ n ∧ i = .int .i64 k ∧ wr.ownsRow w.heap.size 3 1 v ((iota k).map (Value.int .i64)).length ((iota k).map (Value.int .i64)) ∧ Mut (fun _ => False) w wr) (fun _ i _ => n - (intOf i).toNat)
  case atStart => exact ⟨0, by omega, rfl, by exact World.ownsRow_nil _ _ _ _, Mut.refl _ _⟩
  case round =>
    obtain ⟨k, hk, rfl, hown, hm⟩ := hrel
    have hm' := Lib.hid hm
    have hsz := hm.size
    clear hm
    by_cases hlt : k < n
    · have hlen : ((iota k).map (Value.int .i64)).length < 1099511627776 := by simp [iota_len]; omega
      go_wp2_with (at_builtin; refine wpList_push rfl _ _ 25 rfl Try.underlying25 info3 rfl _ _ (.int .i64 k) rfl (hown.alloc _) _ rfl (by go_simp) rfl hlen (by decide) (by simp; omega) ?_; intro v' w1 hown1 hg1 hb1)
      go_roundw
      case rel => exact ⟨k + 1, by omega, by go_num, by rw [iota_succ, List.map_append]; exact hown1, (hm'.out.alloc _).grown hg1 (fun g hg hlt => by have := ownBlock_new hown g hg; omega)⟩
      case measure => simp [intOf]; omega
    · obtain rfl : k = n := by omega
      have H := Lib.hid (show RNewPost M w k (.returned (.tuple #[u4, .bool true])) wr from ⟨u4, rfl, SliceIn.of_owns hown (fun b hb hMb => by have := hM b hMb; omega), hm'.out⟩)
      clear hown
      go_wp2
      go_ret2
      exact H.out

/-! ### the reference: Same, Alike, at equal lists -/
def TruePost (w : World) (e : Ending) (w' : World) : Prop := e = .returned (.bool true) ∧ Mut (fun _ => False) w w'

theorem same_true (M : Nat → Prop) (va vb : Value) (xs : List Int) (w : World) (ha : Ints M w va xs) (hb : Ints M w vb xs) : Calls Try.prog 48 #[va, vb] w (TruePost w) := by
  have ha0 := Lib.hid ha
  have hb0 := Lib.hid hb
  obtain ⟨a, c, rfl, hl, -⟩ := ha.open
  obtain ⟨a', c', rfl, -, -⟩ := hb.open
  clear ha hb
  have hd : ((xs.length : Int) != (xs.length : Int)) = false := by simp
  go_enter Try.func48, Try.ntmps48
  go_wp2
  go_loopw [5] (fun i wr => ∃ k : Nat, k ≤ xs.length ∧ i = .int .i64 k ∧ Mut (fun _ => False) w wr) (fun i _ => xs.length - (intOf i).toNat)
  case atStart => exact ⟨0, Nat.zero_le _, rfl, Mut.refl _ _⟩
  case round =>
    obtain ⟨k, hk, rfl, hm⟩ := hrel
    by_cases hlt : k < xs.length
    · obtain ⟨_, _, he, -, hx⟩ := (ha0.out.mut hm (by simp)).open
      obtain ⟨_, _, he', -, hy⟩ := (hb0.out.mut hm (by simp)).open
      simp only [Value.slice.injEq] at he he'
      obtain ⟨rfl, -, rfl⟩ := he
      obtain ⟨rfl, -, rfl⟩ := he'
      obtain ⟨b, off, x, rfl, -, hx1, hx2⟩ := hx k hlt
      obtain ⟨b', off', x', rfl, -, hy1, hy2⟩ := hy k hlt
      rw [hx1] at hy1
      cases hy1
      have hbe : (x != x) = false := by simp
      clear hx hy hx1 ha0 hb0
      replace hm := Lib.hid hm
      go_wp2
      go_quiet (fail)
      go_wp2
      go_roundw
      case rel => exact ⟨k + 1, by omega, by go_num, hm.out.drewN _⟩
      case measure => simp [intOf]; omega
    · clear ha0 hb0
      replace hm := Lib.hid hm
      go_wp2
      go_ret
      exact ⟨rfl, hm.out⟩

theorem alike_true (M : Nat → Prop) (va vb : Value) (xss : List (List Int)) (w : World) (ha : IntsL M w va xss) (hb : IntsL M w vb xss) : Calls Try.prog 38 #[va, vb] w (TruePost w) := by
  have ha0 := Lib.hid ha
  have hb0 := Lib.hid hb
  obtain ⟨a, c, rfl, hl, -⟩ := ha.open
  obtain ⟨a', c', rfl, -, -⟩ := hb.open
  clear ha hb
  have hd : ((xss.length : Int) != (xss.length : Int)) = false := by simp
  go_enter Try.func38, Try.ntmps38
  go_wp2
  go_loopw [5] (fun i wr => ∃ k : Nat, k ≤ xss.length ∧ i = .int .i64 k ∧ Mut (fun _ => False) w wr) (fun i _ => xss.length - (intOf i).toNat)
  case atStart => exact ⟨0, Nat.zero_le _, rfl, Mut.refl _ _⟩
  case round =>
    obtain ⟨k, hk, rfl, hm⟩ := hrel
    by_cases hlt : k < xss.length
    · obtain ⟨_, _, he, -, hx⟩ := (ha0.out.mut hm (by simp)).open
      obtain ⟨_, _, he', -, hy⟩ := (hb0.out.mut hm (by simp)).open
      simp only [Value.slice.injEq] at he he'
      obtain ⟨rfl, -, rfl⟩ := he
      obtain ⟨rfl, -, rfl⟩ := he'
      obtain ⟨b, off, v1, x, rfl, -, hx1, hx2, hx3⟩ := hx k hlt
      obtain ⟨b', off', v2, x', rfl, -, hy1, hy2, hy3⟩ := hy k hlt
      rw [hx1] at hy1
      cases hy1
      replace hx3 := Lib.hid hx3
      replace hy3 := Lib.hid hy3
      clear hx hy hx1 ha0 hb0
      replace hm := Lib.hid hm
      go_wp2
      have hS : Cells2 ⟨b, off + k, none⟩ v1 ⟨b', off' + k, none⟩ v2 wr.drew := ⟨by simpa using hx2, by simpa using hy2⟩
      have hne := Cls.ne hS
      refine wp_plan (Cells2 ⟨b, off + k, none⟩ v1 ⟨b', off' + k, none⟩ v2) [0, 1, 2, 3, 4, 5, 6, 7] [([0, 1, 2, 3, 4, 5, 6, 7], none)] [8, 9] (by kernel_rfl) (by kernel_rfl) ?_
      refine ⟨Of.mk hS, ?_⟩
      clear hS
      simp only [wpPlan, pickOps_cons, pickOps_nil, List.getElem?_cons_zero, List.getElem?_cons_succ, pickOp_some]
      have s1 := fun x : Cls (Cells2 ⟨b, off + k, none⟩ v1 ⟨b', off' + k, none⟩ v2) => x.ok.h1
      have s2 := fun x : Cls (Cells2 ⟨b, off + k, none⟩ v1 ⟨b', off' + k, none⟩ v2) => x.ok.h2
      repeat (go_big_quiet_step (fail))
      refine wpQuiet_nil ?_
      clear s1 s2 hne
      go_wp2_with fail
      refine (same_true M v1 v2 x _ ?_ ?_).mono ?_
      · exact hx3.out.mut ((Mut.refl (fun _ => False) _).drew) (by simp)
      · exact hy3.out.mut ((Mut.refl (fun _ => False) _).drew) (by simp)
      rintro e w1 ⟨rfl, hm1⟩
      replace hm := Lib.hid ((hm.out.trans (Mut.refl _ _).drew).trans hm1)
      clear hm1
      go_wp2
      refine NoPanic.normal ?_
      go_wp2
      go_roundw
      case rel => exact ⟨k + 1, by omega, by go_num, hm.out⟩
      case measure => simp [intOf]; omega
    · clear ha0 hb0
      replace hm := Lib.hid hm
      go_wp2
      go_ret
      exact ⟨rfl, hm.out⟩

/-! ### the reference: Block -/
def blockTo (R : List Int) (h : Int) : Nat → List Int
  | 0 => []
  | k + 1 => blockTo R h k ++ if R[k]? = some h then [(k : Int)] else []

theorem blockTo_len (R : List Int) (h : Int) : ∀ k, (blockTo R h k).length ≤ k
  | 0 => by simp [blockTo]
  | k + 1 => by have := blockTo_len R h k; simp only [blockTo, List.length_append]; split <;> simp <;> omega

def IntsPost (M : Nat → Prop) (w : World) (xs : List Int) (e : Ending) (w' : World) : Prop :=
  ∃ v, e = .returned v ∧ Ints M w' v xs ∧ Mut (fun _ => False) w w'

theorem block_any (M : Nat → Prop) (v : Value) (R : List Int) (h : Int) (w : World) (hv : Ints M w v R) (hM : ∀ b, M b → b < w.heap.size) (hn : R.length ≤ 4096) :
    Calls Try.prog 17 #[v, .int .i64 h] w (IntsPost M w (blockTo R h R.length)) := by
  have hv0 := Lib.hid hv
  obtain ⟨a, c, rfl, hl, -⟩ := hv.open
  clear hv
  go_enter Try.func17, Try.ntmps17
  go_wp2
  go_loopw [5, 6] (fun o i wr => ∃ k : Nat, k ≤ R.length ∧ i = .int .i64 k ∧ wr.ownsRow w.heap.size 3 1 o ((blockTo R h k).map (Value.int .i64)).length ((blockTo R h k).map (Value.int .i64)) ∧ Mut (fun _ => False) w wr) (fun _ i _ => R.length - (intOf i).toNat)
  case atStart => exact ⟨0, by omega, rfl, by exact World.ownsRow_nil _ _ _ _, Mut.refl _ _⟩
  case round =>
    obtain ⟨k, hk, rfl, hown, hm⟩ := hrel
    have hsz := hm.size
    by_cases hlt : k < R.length
    · obtain ⟨_, _, he, -, hx⟩ := (hv0.out.mut hm (by simp)).open
      simp only [Value.slice.injEq] at he
      obtain ⟨rfl, -, rfl⟩ := he
      obtain ⟨b, off, x, rfl, -, hx1, hx2⟩ := hx k hlt
      clear hx hv0
      replace hm := Lib.hid hm
      replace hx1 := Lib.hid hx1
      by_cases hxh : x = h
      · have hb : blockTo R h (k + 1) = blockTo R h k ++ [(k : Int)] := by simp [blockTo, hx1.out, hxh]
        replace hb := Lib.hid hb
        have ht : (x == h) = true := by simp [hxh]
        have hlen : ((blockTo R h k).map (Value.int .i64)).length < 1099511627776 := by have := blockTo_len R h k; simp; omega
        clear hxh
        go_wp2_with (at_builtin; refine wpList_push rfl _ _ 24 rfl Try.underlying24 info3 rfl _ _ (.int .i64 k) rfl (hown.alloc _) _ rfl (by go_simp) rfl hlen (by decide) (by simp; omega) ?_; intro v' w1 hown1 hg1 hb1)
        go_roundw
        case rel => exact ⟨k + 1, by omega, by go_num, by rw [hb.out, List.map_append]; exact hown1, (hm.out.alloc _).grown hg1 (fun g hg hlt => by have := ownBlock_new hown g hg; omega)⟩
        case measure => simp [intOf]; omega
      · have hb : blockTo R h (k + 1) = blockTo R h k := by simp [blockTo, hx1.out, hxh]
        replace hb := Lib.hid hb
        have ht : (x == h) = false := by simp [hxh]
        have hown' := Lib.hid hown
        clear hxh hown
        go_wp2
        go_roundw
        case rel => exact ⟨k + 1, by omega, by go_num, by rw [hb.out]; exact hown'.out, hm.out⟩
        case measure => simp [intOf]; omega
    · obtain rfl : k = R.length := by omega
      have H := Lib.hid (show IntsPost M w (blockTo R h R.length) (.returned u5) wr from ⟨u5, rfl, SliceIn.of_owns hown (fun b hb hMb => by have := hM b hMb; omega), hm⟩)
      clear hown hm hv0
      go_wp2
      go_ret
      exact H.out
end Go.Proofs.Ytojfpobgncapjaa
