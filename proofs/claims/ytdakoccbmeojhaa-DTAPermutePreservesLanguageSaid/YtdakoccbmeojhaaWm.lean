/- Contracts: the equality of lists and of automata, by the library, the program and the reference. Condition: lists in memory. -/
import Derived.Test.YtdakoccbmeojhaaWk
set_option linter.unusedSimpArgs false
set_option linter.unusedVariables false
set_option maxHeartbeats 400000
namespace Go.Proofs.Ytdakoccbmeojhaa
open Go Go.RowKit Go.PP

def DrewPost (w : World) (v : Value) (e : Ending) (w' : World) : Prop := e = .returned v ∧ ∃ n, w' = w.drewN n
theorem DrewPost.ret {w w' : World} {v : Value} {e : Ending} (h : DrewPost w v e w') : RetPost w v e w' := by
  obtain ⟨h1, n, rfl⟩ := h
  exact ⟨h1, (Mut.refl _ w).drewN n⟩

theorem eq_of_all {α : Type} {xs ys : List α} (hl : xs.length = ys.length) (h : ∀ i : Nat, i < xs.length → xs[i]? = ys[i]?) : xs = ys := by
  refine List.ext_getElem? fun i => ?_
  rcases Nat.lt_or_ge i xs.length with hi | hi
  · exact h i hi
  · rw [List.getElem?_eq_none hi, List.getElem?_eq_none (by omega)]

set_option maxHeartbeats 2000000 in
theorem eq54 (va vb : Value) (xs ys : List Int) (w : World) (ha : Ints (fun _ => False) w va xs) (hb : Ints (fun _ => False) w vb ys) : Calls Try.prog 54 #[va, vb] w (DrewPost w (.bool (decide (xs = ys)))) := by
  have ha0 := Lib.hid ha
  have hb0 := Lib.hid hb
  obtain ⟨a, c, rfl, hla⟩ := ha.open'
  obtain ⟨a', c', rfl, hlb⟩ := hb.open'
  clear ha hb
  by_cases hl : xs.length = ys.length
  rotate_left
  · have hd : ((xs.length : Int) != (ys.length : Int)) = true := by simp; omega
    rw [show decide (xs = ys) = false by simp; intro e; exact hl (by rw [e])]
    clear hl
    go_enter Try.func54, Try.ntmps54
    go_wp2
    go_ret
    exact ⟨rfl, 0, rfl⟩
  have hd : ((xs.length : Int) != (ys.length : Int)) = false := by simp; omega
  have hlh := Lib.hid hl
  have hle : xs.length ≤ ys.length := by omega
  generalize hq : decide (xs = ys) = q
  replace hq := Lib.hid hq
  clear hl
  go_enter Try.func54, Try.ntmps54
  go_wp2
  go_loopw [13] (fun i wr => ∃ k : Nat, k ≤ xs.length ∧ i = .int .i64 k ∧ (∀ i : Nat, i < k → xs[i]? = ys[i]?) ∧ ∃ n, wr = w.drewN n) (fun i _ => xs.length - (intOf i).toNat)
  case atStart => exact ⟨0, by omega, rfl, by omega, 0, rfl⟩
  case round =>
    obtain ⟨k, hk, rfl, hall, n, rfl⟩ := hrel
    replace hall := Lib.hid hall
    by_cases hlt : k < xs.length
    · have hlt2 : k < ys.length := by omega
      obtain ⟨b, off, x, rfl, hx, hcx⟩ := ha0.out.slot (Mut.refl _ w) hlt
      obtain ⟨b', off', y, rfl, hy, hcy⟩ := hb0.out.slot (Mut.refl _ w) hlt2
      replace hx := Lib.hid hx
      replace hy := Lib.hid hy
      by_cases e : x = y
      · have ht : (x != y) = false := by simp [e]
        have hnext := Lib.hid (show ∀ i : Nat, i < k + 1 → xs[i]? = ys[i]? from fun i hi => by
          rcases Nat.lt_or_ge i k with h | h
          · exact hall.out i h
          · obtain rfl : i = k := by omega
            rw [hx.out, hy.out, e])
        replace e := Lib.hid e
        go_wp2
        go_quiet (fail)
        go_wp2
        go_roundw
        case rel => exact ⟨k + 1, by omega, by go_num, hnext.out, _, rfl⟩
        case measure => simp [intOf]; omega
      · have ht : (x != y) = true := by simp [e]
        have hqf : q = false := by
          rw [← hq.out, decide_eq_false_iff_not]
          intro h
          rw [h, hy.out] at hx
          exact e (Option.some.inj hx.out).symm
        subst hqf
        replace e := Lib.hid e
        go_wp2
        go_quiet (fail)
        go_wp2
        go_ret
        exact ⟨rfl, _, by rw [World.drewN_drewN]⟩
    · obtain rfl : k = xs.length := by omega
      have hqt : q = true := by
        rw [← hq.out, decide_eq_true_eq]
        exact eq_of_all hlh.out hall.out
      subst hqt
      go_wp2
      go_ret
      exact ⟨rfl, _, rfl⟩

set_option maxHeartbeats 2000000 in
theorem eq57 (va vb : Value) (xs ys : List Int) (w : World) (ha : Ints (fun _ => False) w va xs) (hb : Ints (fun _ => False) w vb ys) : Calls Try.prog 57 #[va, vb] w (DrewPost w (.bool (decide (xs = ys)))) := by
  have ha0 := Lib.hid ha
  have hb0 := Lib.hid hb
  obtain ⟨a, c, rfl, hla⟩ := ha.open'
  obtain ⟨a', c', rfl, hlb⟩ := hb.open'
  clear ha hb
  by_cases hl : xs.length = ys.length
  rotate_left
  · have hd : ((xs.length : Int) != (ys.length : Int)) = true := by simp; omega
    rw [show decide (xs = ys) = false by simp; intro e; exact hl (by rw [e])]
    clear hl
    go_enter Try.func57, Try.ntmps57
    go_wp2
    go_ret
    exact ⟨rfl, 0, rfl⟩
  have hd : ((xs.length : Int) != (ys.length : Int)) = false := by simp; omega
  have hlh := Lib.hid hl
  have hle : xs.length ≤ ys.length := by omega
  generalize hq : decide (xs = ys) = q
  replace hq := Lib.hid hq
  clear hl
  go_enter Try.func57, Try.ntmps57
  go_wp2
  go_loopw [13] (fun i wr => ∃ k : Nat, k ≤ xs.length ∧ i = .int .i64 k ∧ (∀ i : Nat, i < k → xs[i]? = ys[i]?) ∧ ∃ n, wr = w.drewN n) (fun i _ => xs.length - (intOf i).toNat)
  case atStart => exact ⟨0, by omega, rfl, by omega, 0, rfl⟩
  case round =>
    obtain ⟨k, hk, rfl, hall, n, rfl⟩ := hrel
    replace hall := Lib.hid hall
    by_cases hlt : k < xs.length
    · have hlt2 : k < ys.length := by omega
      obtain ⟨b, off, x, rfl, hx, hcx⟩ := ha0.out.slot (Mut.refl _ w) hlt
      obtain ⟨b', off', y, rfl, hy, hcy⟩ := hb0.out.slot (Mut.refl _ w) hlt2
      replace hx := Lib.hid hx
      replace hy := Lib.hid hy
      by_cases e : x = y
      · have ht : (x != y) = false := by simp [e]
        have hnext := Lib.hid (show ∀ i : Nat, i < k + 1 → xs[i]? = ys[i]? from fun i hi => by
          rcases Nat.lt_or_ge i k with h | h
          · exact hall.out i h
          · obtain rfl : i = k := by omega
            rw [hx.out, hy.out, e])
        replace e := Lib.hid e
        go_wp2
        go_quiet (fail)
        go_wp2
        go_roundw
        case rel => exact ⟨k + 1, by omega, by go_num, hnext.out, _, rfl⟩
        case measure => simp [intOf]; omega
      · have ht : (x != y) = true := by simp [e]
        have hqf : q = false := by
          rw [← hq.out, decide_eq_false_iff_not]
          intro h
          rw [h, hy.out] at hx
          exact e (Option.some.inj hx.out).symm
        subst hqf
        replace e := Lib.hid e
        go_wp2
        go_quiet (fail)
        go_wp2
        go_ret
        exact ⟨rfl, _, by rw [World.drewN_drewN]⟩
    · obtain rfl : k = xs.length := by omega
      have hqt : q = true := by
        rw [← hq.out, decide_eq_true_eq]
        exact eq_of_all hlh.out hall.out
      subst hqt
      go_wp2
      go_ret
      exact ⟨rfl, _, rfl⟩

set_option maxHeartbeats 2000000 in
theorem eq58 (va vb : Value) (xs ys : List Int) (w : World) (ha : Ints (fun _ => False) w va xs) (hb : Ints (fun _ => False) w vb ys) : Calls Try.prog 58 #[va, vb] w (DrewPost w (.bool (decide (xs = ys)))) := by
  have ha0 := Lib.hid ha
  have hb0 := Lib.hid hb
  obtain ⟨a, c, rfl, hla⟩ := ha.open'
  obtain ⟨a', c', rfl, hlb⟩ := hb.open'
  clear ha hb
  by_cases hl : xs.length = ys.length
  rotate_left
  · have hd : ((xs.length : Int) != (ys.length : Int)) = true := by simp; omega
    rw [show decide (xs = ys) = false by simp; intro e; exact hl (by rw [e])]
    clear hl
    go_enter Try.func58, Try.ntmps58
    go_wp2
    go_ret
    exact ⟨rfl, 0, rfl⟩
  have hd : ((xs.length : Int) != (ys.length : Int)) = false := by simp; omega
  have hlh := Lib.hid hl
  have hle : xs.length ≤ ys.length := by omega
  generalize hq : decide (xs = ys) = q
  replace hq := Lib.hid hq
  clear hl
  go_enter Try.func58, Try.ntmps58
  go_wp2
  go_loopw [5] (fun i wr => ∃ k : Nat, k ≤ xs.length ∧ i = .int .i64 k ∧ (∀ i : Nat, i < k → xs[i]? = ys[i]?) ∧ ∃ n, wr = w.drewN n) (fun i _ => xs.length - (intOf i).toNat)
  case atStart => exact ⟨0, by omega, rfl, by omega, 0, rfl⟩
  case round =>
    obtain ⟨k, hk, rfl, hall, n, rfl⟩ := hrel
    replace hall := Lib.hid hall
    by_cases hlt : k < xs.length
    · have hlt2 : k < ys.length := by omega
      obtain ⟨b, off, x, rfl, hx, hcx⟩ := ha0.out.slot (Mut.refl _ w) hlt
      obtain ⟨b', off', y, rfl, hy, hcy⟩ := hb0.out.slot (Mut.refl _ w) hlt2
      replace hx := Lib.hid hx
      replace hy := Lib.hid hy
      by_cases e : x = y
      · have ht : (x != y) = false := by simp [e]
        have hnext := Lib.hid (show ∀ i : Nat, i < k + 1 → xs[i]? = ys[i]? from fun i hi => by
          rcases Nat.lt_or_ge i k with h | h
          · exact hall.out i h
          · obtain rfl : i = k := by omega
            rw [hx.out, hy.out, e])
        replace e := Lib.hid e
        go_wp2
        go_quiet (fail)
        go_wp2
        go_roundw
        case rel => exact ⟨k + 1, by omega, by go_num, hnext.out, _, rfl⟩
        case measure => simp [intOf]; omega
      · have ht : (x != y) = true := by simp [e]
        have hqf : q = false := by
          rw [← hq.out, decide_eq_false_iff_not]
          intro h
          rw [h, hy.out] at hx
          exact e (Option.some.inj hx.out).symm
        subst hqf
        replace e := Lib.hid e
        go_wp2
        go_quiet (fail)
        go_wp2
        go_ret
        exact ⟨rfl, _, by rw [World.drewN_drewN]⟩
    · obtain rfl : k = xs.length := by omega
      have hqt : q = true := by
        rw [← hq.out, decide_eq_true_eq]
        exact eq_of_all hlh.out hall.out
      subst hqt
      go_wp2
      go_ret
      exact ⟨rfl, _, rfl⟩

set_option maxHeartbeats 2000000 in
theorem eq55 (va vb : Value) (xs ys : List Bool) (w : World) (ha : Bools (fun _ => False) w va xs) (hb : Bools (fun _ => False) w vb ys) : Calls Try.prog 55 #[va, vb] w (DrewPost w (.bool (decide (xs = ys)))) := by
  have ha0 := Lib.hid ha
  have hb0 := Lib.hid hb
  obtain ⟨a, c, rfl, hla⟩ := ha.open'
  obtain ⟨a', c', rfl, hlb⟩ := hb.open'
  clear ha hb
  by_cases hl : xs.length = ys.length
  rotate_left
  · have hd : ((xs.length : Int) != (ys.length : Int)) = true := by simp; omega
    rw [show decide (xs = ys) = false by simp; intro e; exact hl (by rw [e])]
    clear hl
    go_enter Try.func55, Try.ntmps55
    go_wp2
    go_ret
    exact ⟨rfl, 0, rfl⟩
  have hd : ((xs.length : Int) != (ys.length : Int)) = false := by simp; omega
  have hlh := Lib.hid hl
  have hle : xs.length ≤ ys.length := by omega
  generalize hq : decide (xs = ys) = q
  replace hq := Lib.hid hq
  clear hl
  go_enter Try.func55, Try.ntmps55
  go_wp2
  go_loopw [13] (fun i wr => ∃ k : Nat, k ≤ xs.length ∧ i = .int .i64 k ∧ (∀ i : Nat, i < k → xs[i]? = ys[i]?) ∧ ∃ n, wr = w.drewN n) (fun i _ => xs.length - (intOf i).toNat)
  case atStart => exact ⟨0, by omega, rfl, by omega, 0, rfl⟩
  case round =>
    obtain ⟨k, hk, rfl, hall, n, rfl⟩ := hrel
    replace hall := Lib.hid hall
    by_cases hlt : k < xs.length
    · have hlt2 : k < ys.length := by omega
      obtain ⟨b, off, x, rfl, hx, hcx⟩ := ha0.out.slot (Mut.refl _ w) hlt
      obtain ⟨b', off', y, rfl, hy, hcy⟩ := hb0.out.slot (Mut.refl _ w) hlt2
      replace hx := Lib.hid hx
      replace hy := Lib.hid hy
      by_cases e : x = y
      · have hnext := Lib.hid (show ∀ i : Nat, i < k + 1 → xs[i]? = ys[i]? from fun i hi => by
          rcases Nat.lt_or_ge i k with h | h
          · exact hall.out i h
          · obtain rfl : i = k := by omega
            rw [hx.out, hy.out, e])
        subst e
        cases x
        all_goals
          go_wp2
          go_quiet (fail)
          go_wp2
          go_roundw
          case rel => exact ⟨k + 1, by omega, by go_num, hnext.out, _, rfl⟩
          case measure => simp [intOf]; omega
      · have hqf : q = false := by
          rw [← hq.out, decide_eq_false_iff_not]
          intro h
          rw [h, hy.out] at hx
          exact e (Option.some.inj hx.out).symm
        subst hqf
        cases x <;> cases y
        · exact absurd rfl e
        · clear e
          go_wp2
          go_quiet (fail)
          go_wp2
          go_ret
          exact ⟨rfl, _, by rw [World.drewN_drewN]⟩
        · clear e
          go_wp2
          go_quiet (fail)
          go_wp2
          go_ret
          exact ⟨rfl, _, by rw [World.drewN_drewN]⟩
        · exact absurd rfl e
    · obtain rfl : k = xs.length := by omega
      have hqt : q = true := by
        rw [← hq.out, decide_eq_true_eq]
        exact eq_of_all hlh.out hall.out
      subst hqt
      go_wp2
      go_ret
      exact ⟨rfl, _, rfl⟩

theorem enter57 : ∀ (args : Array Value) (w : World), (callFunc 57 args).run Try.prog w = .ok (.enter 57 args) w := fun args w => by go_simp

set_option maxHeartbeats 2000000 in
theorem eq56 (va vb : Value) (xs ys : List (List Int)) (w : World) (ha : IntsL (fun _ => False) w va xs) (hb : IntsL (fun _ => False) w vb ys) : Calls Try.prog 56 #[va, vb, .func (.func 57) #[] #[]] w (RetPost w (.bool (decide (xs = ys)))) := by
  have ha0 := Lib.hid ha
  have hb0 := Lib.hid hb
  obtain ⟨a, c, rfl, hla⟩ := ha.open'
  obtain ⟨a', c', rfl, hlb⟩ := hb.open'
  clear ha hb
  by_cases hl : xs.length = ys.length
  rotate_left
  · have hd : ((xs.length : Int) != (ys.length : Int)) = true := by simp; omega
    rw [show decide (xs = ys) = false by simp; intro e; exact hl (by rw [e])]
    clear hl
    go_enter Try.func56, Try.ntmps56
    go_wp2
    go_ret
    exact ⟨rfl, Mut.refl _ _⟩
  have hd : ((xs.length : Int) != (ys.length : Int)) = false := by simp; omega
  have hlh := Lib.hid hl
  have hle : xs.length ≤ ys.length := by omega
  generalize hq : decide (xs = ys) = q
  replace hq := Lib.hid hq
  clear hl
  go_enter Try.func56, Try.ntmps56
  go_wp2
  go_loopw [17] (fun i wr => ∃ k : Nat, k ≤ xs.length ∧ i = .int .i64 k ∧ (∀ i : Nat, i < k → xs[i]? = ys[i]?) ∧ Fix w wr) (fun i _ => xs.length - (intOf i).toNat)
  case atStart => exact ⟨0, by omega, rfl, by omega, Mut.refl _ _⟩
  case round =>
    obtain ⟨k, hk, rfl, hall, hm⟩ := hrel
    replace hall := Lib.hid hall
    by_cases hlt : k < xs.length
    · have hlt2 : k < ys.length := by omega
      obtain ⟨b, off, ra, rc, x, rfl, hx, hxl, hcx, hrx⟩ := ha0.out.row hm hlt
      obtain ⟨b', off', ra', rc', y, rfl, hy, hyl, hcy, hry⟩ := hb0.out.row hm hlt2
      replace hx := Lib.hid hx
      replace hy := Lib.hid hy
      have hcl := Lib.hid (eq57 _ _ x y wr (hrx.fix hm) (hry.fix hm))
      replace hm := Lib.hid hm
      clear hrx hry
      by_cases e : x = y
      · rw [show decide (x = y) = true by simpa using e] at hcl
        have hnext := Lib.hid (show ∀ i : Nat, i < k + 1 → xs[i]? = ys[i]? from fun i hi => by
          rcases Nat.lt_or_ge i k with h | h
          · exact hall.out i h
          · obtain rfl : i = k := by omega
            rw [hx.out, hy.out, e])
        replace e := Lib.hid e
        go_wp2_with fail
        refine hcl.out.mono ?_
        rintro e2 w2 ⟨rfl, n, rfl⟩
        go_wp2
        go_roundw
        case rel => exact ⟨k + 1, by omega, by go_num, hnext.out, hm.out.drewN _⟩
        case measure => simp [intOf]; omega
      · rw [show decide (x = y) = false by simpa using e] at hcl
        have hqf : q = false := by
          rw [← hq.out, decide_eq_false_iff_not]
          intro h
          rw [h, hy.out] at hx
          exact e (Option.some.inj hx.out).symm
        subst hqf
        replace e := Lib.hid e
        go_wp2_with fail
        refine hcl.out.mono ?_
        rintro e2 w2 ⟨rfl, n, rfl⟩
        go_wp2
        go_ret
        exact ⟨rfl, hm.out.drewN _⟩
    · obtain rfl : k = xs.length := by omega
      have hqt : q = true := by
        rw [← hq.out, decide_eq_true_eq]
        exact eq_of_all hlh.out hall.out
      subst hqt
      replace hm := Lib.hid hm
      go_wp2
      go_ret
      exact ⟨rfl, hm.out⟩

/-- Two automata are equal. -/
def eqAu (A B : Au) : Bool := decide (A.ranks = B.ranks) && (decide (A.final = B.final) && decide (A.to = B.to))
theorem eqAu_self (A : Au) : eqAu A A = true := by simp [eqAu]
theorem eqAu_iff (A B : Au) : eqAu A B = true ↔ A = B := by
  obtain ⟨a, b, c⟩ := A
  obtain ⟨a', b', c'⟩ := B
  simp [eqAu]

set_option maxRecDepth 8000 in
set_option maxHeartbeats 4000000 in
theorem equal_any (A B : Au) (v1 v2 v3 u1 u2 u3 : Value) (w : World) (hA : AuIn (fun _ => False) w v1 v2 v3 A) (hB : AuIn (fun _ => False) w u1 u2 u3 B) : Calls Try.prog 25 #[.agg #[v1, v2, v3], .agg #[u1, u2, u3]] w (RetPost w (.bool (eqAu A B))) := by
  have hA0 := Lib.hid hA
  have hB0 := Lib.hid hB
  obtain ⟨a1, c1, a2, c2, a3, c3, rfl, rfl, rfl, l1, l2, l3⟩ := hA.open
  obtain ⟨b1, d1, b2, d2, b3, d3, rfl, rfl, rfl, m1, m2, m3⟩ := hB.open
  clear hA hB
  have hX := BoxA.mk' w (.slice a1 A.ranks.length c1) (.slice a2 A.final.length c2) (.slice a3 A.to.length c3) 35
  have hm1 := (Mut.refl (fun _ => False) w).alloc (.cells #[.slice a1 A.ranks.length c1, .slice a2 A.final.length c2, .slice a3 A.to.length c3] 35)
  have hY := BoxA.mk' (w.alloc (.cells #[.slice a1 A.ranks.length c1, .slice a2 A.final.length c2, .slice a3 A.to.length c3] 35)) (.slice b1 B.ranks.length d1) (.slice b2 B.final.length d2) (.slice b3 B.to.length d3) 35
  have hX2 := hX.fix ((Mut.refl (fun _ => False) _).alloc (.cells #[.slice b1 B.ranks.length d1, .slice b2 B.final.length d2, .slice b3 B.to.length d3] 35))
  have hm2 := hm1.alloc (.cells #[.slice b1 B.ranks.length d1, .slice b2 B.final.length d2, .slice b3 B.to.length d3] 35)
  rw [show (w.alloc (.cells #[.slice a1 A.ranks.length c1, .slice a2 A.final.length c2, .slice a3 A.to.length c3] 35)).heap.size = w.heap.size + 1 from by simp] at hY
  have hA2 := Lib.hid (hA0.out.fix hm2)
  have hB2 := Lib.hid (hB0.out.fix hm2)
  replace hX2 := Lib.hid hX2
  replace hY := Lib.hid hY
  replace hm2 := Lib.hid hm2
  clear hX hm1
  have h1 := Lib.hid (eq54 _ _ A.ranks B.ranks _ hA2.out.r hB2.out.r)
  unfold eqAu
  cases e1 : decide (A.ranks = B.ranks) with
  | false =>
    rw [e1] at h1
    replace e1 := Lib.hid e1
    rw [Bool.false_and]
    go_enter Try.func25, Try.ntmps25
    go_wp2_with fail
    refine h1.out.mono ?_
    rintro e w1 ⟨rfl, n1, rfl⟩
    go_wp2
    go_ret
    exact ⟨rfl, hm2.out.drewN _⟩
  | true =>
    rw [e1] at h1
    replace e1 := Lib.hid e1
    rw [Bool.true_and]
    cases e2 : decide (A.final = B.final) with
    | false =>
      rw [Bool.false_and]
      go_enter Try.func25, Try.ntmps25
      go_wp2_with fail
      refine h1.out.mono ?_
      rintro e w1 ⟨rfl, n1, rfl⟩
      obtain ⟨k0, k1, k2⟩ := hX2.out.fix ((Mut.refl (fun _ => False) _).drewN n1)
      obtain ⟨q0, q1, q2⟩ := hY.out.fix ((Mut.refl (fun _ => False) _).drewN n1)
      have h2 := eq55 _ _ A.final B.final _ (hA2.out.f.fix ((Mut.refl (fun _ => False) _).drewN n1)) (hB2.out.f.fix ((Mut.refl (fun _ => False) _).drewN n1))
      rw [e2] at h2
      replace e2 := Lib.hid e2
      replace h2 := Lib.hid h2
      go_wp2_with fail
      refine h2.out.mono ?_
      rintro e w1 ⟨rfl, n2, rfl⟩
      go_wp2
      go_ret
      exact ⟨rfl, hm2.out.drewN _⟩
    | true =>
      rw [Bool.true_and]
      generalize e3 : decide (A.to = B.to) = q
      go_enter Try.func25, Try.ntmps25
      go_wp2_with fail
      refine h1.out.mono ?_
      rintro e w1 ⟨rfl, n1, rfl⟩
      obtain ⟨k0, k1, k2⟩ := hX2.out.fix ((Mut.refl (fun _ => False) _).drewN n1)
      obtain ⟨q0, q1, q2⟩ := hY.out.fix ((Mut.refl (fun _ => False) _).drewN n1)
      have h2 := eq55 _ _ A.final B.final _ (hA2.out.f.fix ((Mut.refl (fun _ => False) _).drewN n1)) (hB2.out.f.fix ((Mut.refl (fun _ => False) _).drewN n1))
      have h3 := fun n => eq56 _ _ A.to B.to _ (hA2.out.t.fix ((Mut.refl (fun _ => False) _).drewN n)) (hB2.out.t.fix ((Mut.refl (fun _ => False) _).drewN n))
      rw [e2] at h2
      rw [e3] at h3
      replace e2 := Lib.hid e2
      replace e3 := Lib.hid e3
      replace h2 := Lib.hid h2
      replace h3 := Lib.hid h3
      go_wp2_with fail
      refine h2.out.mono ?_
      rintro e w1 ⟨rfl, n2, rfl⟩
      simp only [World.drewN_drewN]
      obtain ⟨k0, k1, k2⟩ := hX2.out.fix ((Mut.refl (fun _ => False) _).drewN (n1 + n2))
      obtain ⟨q0, q1, q2⟩ := hY.out.fix ((Mut.refl (fun _ => False) _).drewN (n1 + n2))
      go_wp2_with fail
      refine (h3.out _).mono ?_
      rintro e w1 ⟨rfl, hm⟩
      replace hm2 := Lib.hid ((hm2.out.drewN _).trans hm)
      clear hm
      go_wp2
      go_ret
      exact ⟨rfl, hm2.out⟩
end Go.Proofs.Ytdakoccbmeojhaa
