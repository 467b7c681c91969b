/- Contract: the reference's equality of automata. Condition: automata in memory. -/
import Derived.Test.YtdakoccbmeojhaaWm
set_option linter.unusedSimpArgs false
set_option linter.unusedVariables false
set_option maxHeartbeats 400000
namespace Go.Proofs.Ytdakoccbmeojhaa
open Go Go.RowKit Go.PP

theorem eqAu_false_r {A B : Au} (h : A.ranks ≠ B.ranks) : eqAu A B = false := by simp [eqAu, h]
theorem eqAu_false_f {A B : Au} (h : A.final ≠ B.final) : eqAu A B = false := by simp [eqAu, h]
theorem eqAu_false_t {A B : Au} (h : A.to ≠ B.to) : eqAu A B = false := by simp [eqAu, h]
theorem eqAu_true {A B : Au} (h1 : A.ranks = B.ranks) (h2 : A.final = B.final) (h3 : A.to = B.to) : eqAu A B = true := by simp [eqAu, h1, h2, h3]

theorem quiet_of_drew {P : Program} {f : FuncId} {args : Array Value} {w : World} {n m : Nat} {v : Value}
    (h : Calls P f args (w.drewN (n + m)) (DrewPost (w.drewN (n + m)) v)) : Calls P f args (w.drewN (n + m)) fun e w'' => e = .returned v ∧ ∃ k, w'' = w.drewN (n + k) :=
  h.mono fun _ _ ⟨he, k, hk⟩ => ⟨he, m + k, by rw [hk, World.drewN_drewN, Nat.add_assoc]⟩

set_option maxRecDepth 8000 in
set_option maxHeartbeats 8000000 in
theorem same_any (A B : Au) (v1 v2 v3 u1 u2 u3 : Value) (w : World) (hA : AuIn (fun _ => False) w v1 v2 v3 A) (hB : AuIn (fun _ => False) w u1 u2 u3 B) : Calls Try.prog 26 #[.agg #[v1, v2, v3], .agg #[u1, u2, u3]] w (RetPost w (.bool (eqAu A B))) := by
  have hA0 := Lib.hid hA
  have hB0 := Lib.hid hB
  obtain ⟨a1, c1, a2, c2, a3, c3, rfl, rfl, rfl, l1, l2, l3⟩ := hA.open
  obtain ⟨b1, d1, b2, d2, b3, d3, rfl, rfl, rfl, m1, m2, m3⟩ := hB.open
  clear hA hB
  have hX := BoxA.mk' w (.slice a1 A.ranks.length c1) (.slice a2 A.final.length c2) (.slice a3 A.to.length c3) 26
  have hm1 := (Mut.refl (fun _ => False) w).alloc (.cells #[.slice a1 A.ranks.length c1, .slice a2 A.final.length c2, .slice a3 A.to.length c3] 26)
  have hY := BoxA.mk' (w.alloc (.cells #[.slice a1 A.ranks.length c1, .slice a2 A.final.length c2, .slice a3 A.to.length c3] 26)) (.slice b1 B.ranks.length d1) (.slice b2 B.final.length d2) (.slice b3 B.to.length d3) 26
  have hX2 := hX.fix ((Mut.refl (fun _ => False) _).alloc (.cells #[.slice b1 B.ranks.length d1, .slice b2 B.final.length d2, .slice b3 B.to.length d3] 26))
  have hm2 := hm1.alloc (.cells #[.slice b1 B.ranks.length d1, .slice b2 B.final.length d2, .slice b3 B.to.length d3] 26)
  rw [show (w.alloc (.cells #[.slice a1 A.ranks.length c1, .slice a2 A.final.length c2, .slice a3 A.to.length c3] 26)).heap.size = w.heap.size + 1 from by simp] at hY
  have hA2 := Lib.hid (hA0.out.fix hm2)
  have hB2 := Lib.hid (hB0.out.fix hm2)
  replace hX2 := Lib.hid hX2
  replace hY := Lib.hid hY
  replace hm2 := Lib.hid hm2
  clear hX hm1
  have h1 := Lib.hid (eq58 _ _ A.ranks B.ranks _ hA2.out.r hB2.out.r)
  generalize hq : eqAu A B = q
  replace hq := Lib.hid hq
  cases e1 : decide (A.ranks = B.ranks) with
  | false =>
    rw [e1] at h1
    obtain rfl : q = false := by rw [← hq.out]; exact eqAu_false_r (by simpa using e1)
    replace e1 := Lib.hid e1
    go_enter Try.func26, Try.ntmps26
    go_wp2_with fail
    refine h1.out.mono ?_
    rintro e w1 ⟨rfl, n1, rfl⟩
    go_wp2
    go_ret
    exact ⟨rfl, hm2.out.drewN _⟩
  | true =>
    rw [e1] at h1
    replace e1 := Lib.hid e1
    by_cases e2 : A.final.length = B.final.length
    rotate_left
    · have hd2 : ((A.final.length : Int) != (B.final.length : Int)) = true := by simp; omega
      obtain rfl : q = false := by rw [← hq.out]; exact eqAu_false_f (fun e => e2 (by rw [e]))
      replace e2 := Lib.hid e2
      go_enter Try.func26, Try.ntmps26
      go_wp2_with fail
      refine h1.out.mono ?_
      rintro e w1 ⟨rfl, n1, rfl⟩
      obtain ⟨k0, k1, k2⟩ := hX2.out
      obtain ⟨q0, q1, q2⟩ := hY.out
      go_wp2
      go_ret
      exact ⟨rfl, hm2.out.drewN _⟩
    have hd2 : ((A.final.length : Int) != (B.final.length : Int)) = false := by simp; omega
    have e2' : A.final.length ≤ B.final.length := by omega
    replace e2 := Lib.hid e2
    by_cases e3 : A.to.length = B.to.length
    rotate_left
    · have hd3 : ((A.to.length : Int) != (B.to.length : Int)) = true := by simp; omega
      obtain rfl : q = false := by rw [← hq.out]; exact eqAu_false_t (fun e => e3 (by rw [e]))
      replace e3 := Lib.hid e3
      go_enter Try.func26, Try.ntmps26
      go_wp2_with fail
      refine h1.out.mono ?_
      rintro e w1 ⟨rfl, n1, rfl⟩
      obtain ⟨k0, k1, k2⟩ := hX2.out
      obtain ⟨q0, q1, q2⟩ := hY.out
      go_wp2
      go_ret
      exact ⟨rfl, hm2.out.drewN _⟩
    have hd3 : ((A.to.length : Int) != (B.to.length : Int)) = false := by simp; omega
    have e3' : A.to.length ≤ B.to.length := by omega
    replace e3 := Lib.hid e3
    go_enter Try.func26, Try.ntmps26
    go_wp2_with fail
    refine h1.out.mono ?_
    rintro e w1 ⟨rfl, n1, rfl⟩
    clear h1
    obtain ⟨k0, k1, k2⟩ := hX2.out
    obtain ⟨q0, q1, q2⟩ := hY.out
    go_wp2
    generalize ((w.alloc (.cells #[.slice a1 A.ranks.length c1, .slice a2 A.final.length c2, .slice a3 A.to.length c3] 26)).alloc (.cells #[.slice b1 B.ranks.length d1, .slice b2 B.final.length d2, .slice b3 B.to.length d3] 26)) = wb at *
    go_loopw [5] (fun i wr => ∃ k : Nat, k ≤ A.final.length ∧ i = .int .i64 k ∧ (∀ i : Nat, i < k → A.final[i]? = B.final[i]?) ∧ ∃ n, wr = wb.drewN n) (fun i _ => A.final.length - (intOf i).toNat)
    case atStart => exact ⟨0, by omega, rfl, by omega, _, rfl⟩
    case round =>
      obtain ⟨k, hk, rfl, hall, n, rfl⟩ := hrel
      replace hall := Lib.hid hall
      by_cases hlt : k < A.final.length
      · have hlt2 : k < B.final.length := by omega
        obtain ⟨b, off, x, rfl, hx, hcx⟩ := hA2.out.f.slot (Mut.refl _ _) hlt
        obtain ⟨b', off', y, rfl, hy, hcy⟩ := hB2.out.f.slot (Mut.refl _ _) hlt2
        replace hx := Lib.hid hx
        replace hy := Lib.hid hy
        by_cases e : x = y
        · have hnext := Lib.hid (show ∀ i : Nat, i < k + 1 → A.final[i]? = B.final[i]? from fun i hi => by
            rcases Nat.lt_or_ge i k with h | h
            · exact hall.out i h
            · obtain rfl : i = k := by omega
              rw [hx.out, hy.out, e])
          subst e
          cases x
          all_goals
            go_wp2
            go_quiet (fail)
            go_wp2
            go_roundw
            case rel => exact ⟨k + 1, by omega, by go_num, hnext.out, _, rfl⟩
            case measure => simp [intOf]; omega
        · have hqf : q = false := by
            rw [← hq.out]
            refine eqAu_false_f fun h => ?_
            rw [h, hy.out] at hx
            exact e (Option.some.inj hx.out).symm
          subst hqf
          cases x <;> cases y
          · exact absurd rfl e
          · clear e
            go_wp2
            go_quiet (fail)
            go_wp2
            go_ret
            exact ⟨rfl, by rw [World.drewN_drewN]; exact hm2.out.drewN _⟩
          · clear e
            go_wp2
            go_quiet (fail)
            go_wp2
            go_ret
            exact ⟨rfl, by rw [World.drewN_drewN]; exact hm2.out.drewN _⟩
          · exact absurd rfl e
      · obtain rfl : k = A.final.length := by omega
        have hff := Lib.hid (eq_of_all e2.out hall.out)
        clear hall hlt
        go_wp2
        go_loopw [6] (fun i wr => ∃ k : Nat, k ≤ A.to.length ∧ i = .int .i64 k ∧ (∀ i : Nat, i < k → A.to[i]? = B.to[i]?) ∧ ∃ n, wr = wb.drewN n) (fun i _ => A.to.length - (intOf i).toNat)
        case atStart => exact ⟨0, by omega, rfl, by omega, _, rfl⟩
        case round =>
          obtain ⟨k, hk, rfl, hall, n, rfl⟩ := hrel
          replace hall := Lib.hid hall
          by_cases hlt : k < A.to.length
          · have hlt2 : k < B.to.length := by omega
            obtain ⟨b, off, ra, rc, x, rfl, hx, hxl, hcx, hrx⟩ := hA2.out.t.row (Mut.refl _ _) hlt
            obtain ⟨b', off', ra', rc', y, rfl, hy, hyl, hcy, hry⟩ := hB2.out.t.row (Mut.refl _ _) hlt2
            replace hx := Lib.hid hx
            replace hy := Lib.hid hy
            have hcl := Lib.hid (fun m => eq58 _ _ x y (wb.drewN m) (hrx.fix ((Mut.refl (fun _ => False) _).drewN m)) (hry.fix ((Mut.refl (fun _ => False) _).drewN m)))
            clear hrx hry
            by_cases e : x = y
            · rw [show decide (x = y) = true by simpa using e] at hcl
              have hnext := Lib.hid (show ∀ i : Nat, i < k + 1 → A.to[i]? = B.to[i]? from fun i hi => by
                rcases Nat.lt_or_ge i k with h | h
                · exact hall.out i h
                · obtain rfl : i = k := by omega
                  rw [hx.out, hy.out, e])
              replace e := Lib.hid e
              go_wp2
              go_quiet ((go_at_call 58; exact quiet_of_drew (hcl.out _)))
              go_wp2
              go_roundw
              case rel => exact ⟨k + 1, by omega, by go_num, hnext.out, _, rfl⟩
              case measure => simp [intOf]; omega
            · rw [show decide (x = y) = false by simpa using e] at hcl
              have hqf : q = false := by
                rw [← hq.out]
                refine eqAu_false_t fun h => ?_
                rw [h, hy.out] at hx
                exact e (Option.some.inj hx.out).symm
              subst hqf
              replace e := Lib.hid e
              go_wp2
              go_quiet ((go_at_call 58; exact quiet_of_drew (hcl.out _)))
              go_wp2
              go_ret
              exact ⟨rfl, by rw [World.drewN_drewN]; exact hm2.out.drewN _⟩
          · obtain rfl : k = A.to.length := by omega
            have hqt : q = true := by
              rw [← hq.out]
              exact eqAu_true (by simpa using e1.out) hff.out (eq_of_all e3.out hall.out)
            subst hqt
            go_wp2
            go_ret
            exact ⟨rfl, hm2.out.drewN _⟩
end Go.Proofs.Ytdakoccbmeojhaa
