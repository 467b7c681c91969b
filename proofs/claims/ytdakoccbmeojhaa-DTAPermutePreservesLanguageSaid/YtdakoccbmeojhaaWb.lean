/- Contracts: places, state, the two checks of an automaton. Condition: an automaton in memory. -/
import Derived.Test.YtdakoccbmeojhaaWa
set_option linter.unusedSimpArgs false
set_option linter.unusedVariables false
set_option maxHeartbeats 400000
namespace Go.Proofs.Ytdakoccbmeojhaa
open Go Go.RowKit Go.PP

/-- The cells of a boxed automaton. -/
structure BoxA (b : Nat) (v1 v2 v3 : Value) (w : World) : Prop where
  c0 : w.cell? ⟨b, 0, none⟩ = some v1
  c1 : w.cell? ⟨b, 1, none⟩ = some v2
  c2 : w.cell? ⟨b, 2, none⟩ = some v3
theorem BoxA.fix {b : Nat} {v1 v2 v3 : Value} {w w' : World} (h : BoxA b v1 v2 v3 w) (m : Fix w w') : BoxA b v1 v2 v3 w' := ⟨m.cell h.c0 (by simp), m.cell h.c1 (by simp), m.cell h.c2 (by simp)⟩
theorem BoxA.mk' (w : World) (v1 v2 v3 : Value) (t : Nat) : BoxA w.heap.size v1 v2 v3 (w.alloc (.cells #[v1, v2, v3] t)) := by
  have h0 := heap_alloc_new w (.cells #[v1, v2, v3] t)
  refine ⟨?_, ?_, ?_⟩ <;> (simp only [World.cell?]; rw [h0]; rfl)
/-- The cells of a boxed tree. -/
structure BoxT (b : Nat) (s : Int) (v : Value) (w : World) : Prop where
  c0 : w.cell? ⟨b, 0, none⟩ = some (.int .i64 s)
  c1 : w.cell? ⟨b, 1, none⟩ = some v
theorem BoxT.fix {b : Nat} {s : Int} {v : Value} {w w' : World} (h : BoxT b s v w) (m : Fix w w') : BoxT b s v w' := ⟨m.cell h.c0 (by simp), m.cell h.c1 (by simp)⟩
theorem BoxT.mk' (w : World) (s : Int) (v : Value) (t : Nat) : BoxT w.heap.size s v (w.alloc (.cells #[.int .i64 s, v] t)) := by
  have h0 := heap_alloc_new w (.cells #[.int .i64 s, v] t)
  refine ⟨?_, ?_⟩ <;> (simp only [World.cell?]; rw [h0]; rfl)

def stB (n : Nat) (x : Int) : Bool := decide (0 ≤ x ∧ x < n)
theorem state_any (v1 v2 v3 : Value) (A : Au) (x : Int) (w : World) (hA : AuIn (fun _ => False) w v1 v2 v3 A) : Calls Try.prog 49 #[.agg #[v1, v2, v3], .int .i64 x] w (RetPost w (.bool (stB A.final.length x))) := by
  obtain ⟨a1, c1, a2, c2, a3, c3, rfl, rfl, rfl, l1, l2, l3⟩ := hA.open
  clear hA
  have hm := Lib.hid ((Mut.refl (fun _ => False) w).alloc (.cells #[.slice a1 A.ranks.length c1, .slice a2 A.final.length c2, .slice a3 A.to.length c3] 35))
  by_cases h : 0 ≤ x
  · rw [show stB A.final.length x = decide (x < A.final.length) by simp [stB, h]]
    go_enter Try.func49, Try.ntmps49
    go_wp2
    go_ret
    exact ⟨rfl, hm.out⟩
  · rw [show stB A.final.length x = false by simp [stB, h]]
    have h' : decide (0 ≤ x) = false := by simp; omega
    go_enter Try.func49, Try.ntmps49
    go_wp2
    go_ret
    exact ⟨rfl, hm.out⟩

theorem notState48 (bx : Nat) (v1 v2 v3 : Value) (A : Au) (x : Int) (w : World) (hb : BoxA bx v1 v2 v3 w) (hA : AuIn (fun _ => False) w v1 v2 v3 A) :
    Calls Try.prog 48 #[.int .i64 x, .pointer (some ⟨bx, 0, none⟩)] w (RetPost w (.bool (!stB A.final.length x))) := by
  obtain ⟨k0, k1, k2⟩ := hb
  generalize hn : stB A.final.length x = b
  replace hn := Lib.hid hn
  have hA0 := Lib.hid hA
  obtain ⟨a1, c1, a2, c2, a3, c3, rfl, rfl, rfl, l1, l2, l3⟩ := hA.open
  clear hA
  go_enter Try.func48, Try.ntmps48
  go_wp2_with fail
  refine (state_any _ _ _ A x w hA0.out).mono ?_
  rw [hn.out]
  rintro e w1 ⟨rfl, hm⟩
  replace hm := Lib.hid hm
  go_wp2
  go_ret
  exact ⟨rfl, hm.out⟩
theorem notState52 (bx : Nat) (v1 v2 v3 : Value) (A : Au) (x : Int) (w : World) (hb : BoxA bx v1 v2 v3 w) (hA : AuIn (fun _ => False) w v1 v2 v3 A) :
    Calls Try.prog 52 #[.int .i64 x, .pointer (some ⟨bx, 0, none⟩)] w (RetPost w (.bool (!stB A.final.length x))) := by
  obtain ⟨k0, k1, k2⟩ := hb
  generalize hn : stB A.final.length x = b
  replace hn := Lib.hid hn
  have hA0 := Lib.hid hA
  obtain ⟨a1, c1, a2, c2, a3, c3, rfl, rfl, rfl, l1, l2, l3⟩ := hA.open
  clear hA
  go_enter Try.func52, Try.ntmps52
  go_wp2_with fail
  refine (state_any _ _ _ A x w hA0.out).mono ?_
  rw [hn.out]
  rintro e w1 ⟨rfl, hm⟩
  replace hm := Lib.hid hm
  go_wp2
  go_ret
  exact ⟨rfl, hm.out⟩

theorem places_any (v1 v2 v3 : Value) (A : Au) (s : Nat) (k : Int) (w : World) (hA : AuIn (fun _ => False) w v1 v2 v3 A) (hk : A.ranks[s]? = some k) (hr : 0 ≤ k ∧ k ≤ 2) (hn : A.final.length ≤ 512) :
    Calls Try.prog 51 #[.agg #[v1, v2, v3], .int .i64 s] w (RetPost w (.int .i64 (wideN k A.final.length : Nat))) := by
  have hT := Lib.hid hA.r
  obtain ⟨a1, c1, a2, c2, a3, c3, rfl, rfl, rfl, l1, l2, l3⟩ := hA.open
  clear hA
  have hm := (Mut.refl (fun _ => False) w).alloc (.cells #[.slice a1 A.ranks.length c1, .slice a2 A.final.length c2, .slice a3 A.to.length c3] 26)
  have hs : s < A.ranks.length := (List.getElem?_eq_some_iff.1 hk).1
  obtain ⟨b, off, x, rfl, hx, hcx⟩ := hT.out.slot hm hs
  rw [hk] at hx
  obtain rfl := Option.some.inj hx
  replace hm := Lib.hid hm
  have hnn : 0 ≤ (A.final.length : Int) * A.final.length ∧ (A.final.length : Int) * A.final.length ≤ 262144 := by
    have h1 : (A.final.length : Int) * A.final.length ≤ 512 * A.final.length := Int.mul_le_mul_of_nonneg_right (by omega) (by omega)
    exact ⟨Int.mul_nonneg (by omega) (by omega), by omega⟩
  obtain ⟨m1, m2⟩ := hnn
  replace hk := Lib.hid hk
  clear hx
  rcases (show k = 0 ∨ k = 1 ∨ k = 2 by omega) with rfl | rfl | rfl
  · rw [show wideN 0 A.final.length = 1 by simp [wideN]]
    go_enter Try.func51, Try.ntmps51
    go_wp2
    go_ret
    exact ⟨rfl, hm.out⟩
  · rw [show wideN 1 A.final.length = A.final.length by simp [wideN]]
    go_enter Try.func51, Try.ntmps51
    go_wp2
    go_ret
    exact ⟨rfl, hm.out⟩
  · rw [show ((wideN 2 A.final.length : Nat) : Int) = (A.final.length : Int) * A.final.length by simp [wideN, Nat.pow_succ]]
    go_enter Try.func51, Try.ntmps51
    go_wp2
    go_ret
    exact ⟨rfl, hm.out⟩

/-! ### Check -/
theorem chk_alpha {A : Au} (h : alphaE A.ranks ≠ 0) : chk A = alphaE A.ranks := by unfold chk; rw [if_pos h]
theorem chk_size {A : Au} (h : alphaE A.ranks = 0) (h2 : A.final.length < 1 ∨ 512 < A.final.length) : chk A = 2 := by unfold chk; rw [if_neg (by omega), if_pos h2]
theorem chk_len {A : Au} (h : alphaE A.ranks = 0) (h2 : 1 ≤ A.final.length ∧ A.final.length ≤ 512) (h3 : A.to.length ≠ A.ranks.length) : chk A = 3 := by unfold chk; rw [if_neg (by omega), if_neg (by omega), if_pos h3]
theorem chk_wide {A : Au} (h : alphaE A.ranks = 0) (h2 : 1 ≤ A.final.length ∧ A.final.length ≤ 512) (h3 : A.to.length = A.ranks.length) {i : Nat} {l : List Int} {k : Int} (q1 : A.to[i]? = some l) (q2 : A.ranks[i]? = some k) (q3 : l.length ≠ wideN k A.final.length) : chk A = 3 := by
  unfold chk; rw [if_neg (by omega), if_neg (by omega), if_neg (by omega), if_pos ⟨i, l, k, q1, q2, q3⟩]
theorem chk_rest {A : Au} (h : alphaE A.ranks = 0) (h2 : 1 ≤ A.final.length ∧ A.final.length ≤ 512) (h3 : A.to.length = A.ranks.length) (h4 : ∀ (i : Nat) l k, A.to[i]? = some l → A.ranks[i]? = some k → l.length = wideN k A.final.length) :
    ((∃ l ∈ A.to, ∃ s ∈ l, s < 0 ∨ (A.final.length : Int) ≤ s) → chk A = 2) ∧ ((∀ (j : Nat) l, A.to[j]? = some l → ∀ s ∈ l, ¬ (s < 0 ∨ (A.final.length : Int) ≤ s)) → chk A = 0) := by
  have hn : ¬ ∃ (i : Nat) (l : List Int) (k : Int), A.to[i]? = some l ∧ A.ranks[i]? = some k ∧ l.length ≠ wideN k A.final.length := fun ⟨i, l, k, q1, q2, q3⟩ => q3 (h4 i l k q1 q2)
  constructor
  · intro h5
    unfold chk; rw [if_neg (by omega), if_neg (by omega), if_neg (by omega), if_neg hn, if_pos h5]
  · intro h5
    unfold chk; rw [if_neg (by omega), if_neg (by omega), if_neg (by omega), if_neg hn, if_neg]
    rintro ⟨l, hl, s, hs, h6⟩
    obtain ⟨j, hj⟩ := List.getElem?_of_mem hl
    exact h5 j l hj s hs h6

theorem enter48 : ∀ (args : Array Value) (w : World), (callFunc 48 args).run Try.prog w = .ok (.enter 48 args) w := fun args w => by go_simp
theorem enter52 : ∀ (args : Array Value) (w : World), (callFunc 52 args).run Try.prog w = .ok (.enter 52 args) w := fun args w => by go_simp

theorem alpha_good (v : Value) (r : List Int) (w : World) (hv : Ints (fun _ => False) w v r) (h : alphaE r = 0) : Calls Try.prog 45 #[v] w (RetPost w (.int .i64 0)) := by
  have := alpha_any v r w hv
  rw [h] at this; exact this
theorem ralpha_good (v : Value) (r : List Int) (w : World) (hv : Ints (fun _ => False) w v r) (h : alphaE r = 0) : Calls Try.prog 50 #[v] w fun e w' => e = .returned (.int .i64 0) ∧ w = w' := by
  have := ralpha_any v r w hv
  rw [h] at this; exact this

def OutB (A : Au) (xs : List Int) : Bool := decide (∃ s ∈ xs, stB A.final.length s = false)

set_option maxRecDepth 8000 in
set_option maxHeartbeats 4000000 in
theorem check_any (v1 v2 v3 : Value) (A : Au) (w : World) (hA : AuIn (fun _ => False) w v1 v2 v3 A) : Calls Try.prog 20 #[.agg #[v1, v2, v3]] w (RetPost w (.int .i64 (chk A : Nat))) := by
  have hA0 := Lib.hid hA
  obtain ⟨a1, c1, a2, c2, a3, c3, rfl, rfl, rfl, l1, l2, l3⟩ := hA.open
  clear hA
  have hm := (Mut.refl (fun _ => False) w).alloc (.cells #[.slice a1 A.ranks.length c1, .slice a2 A.final.length c2, .slice a3 A.to.length c3] 35)
  have hB := Lib.hid (BoxA.mk' w (.slice a1 A.ranks.length c1) (.slice a2 A.final.length c2) (.slice a3 A.to.length c3) 35)
  have hr := Lib.hid (hA0.out.r.fix hm)
  replace hm := Lib.hid hm
  by_cases h1 : alphaE A.ranks = 0
  rotate_left
  · rw [chk_alpha h1]
    have hne : ((alphaE A.ranks : Int) != 0) = true := by simp; exact h1
    have hc := Lib.hid (alpha_any _ A.ranks _ hr.out)
    generalize alphaE A.ranks = E at *
    clear h1
    go_enter Try.func20, Try.ntmps20
    go_wp2_with fail
    refine hc.out.mono ?_
    rintro e w1 ⟨rfl, hm1⟩
    replace hm := Lib.hid (hm.out.trans hm1)
    clear hm1
    go_wp2
    go_ret
    exact ⟨rfl, hm.out⟩
  have hc := Lib.hid (alpha_good _ A.ranks _ hr.out h1)
  have h1h := Lib.hid h1
  clear h1
  by_cases h2 : 1 ≤ A.final.length ∧ A.final.length ≤ 512
  rotate_left
  · rw [chk_size h1h.out (by omega)]
    rcases (show A.final.length < 1 ∨ (1 ≤ A.final.length ∧ 512 < A.final.length) by omega) with h3 | ⟨h3, h4⟩
    · have hd : decide ((A.final.length : Int) < 1) = true := by simp; omega
      clear h2
      go_enter Try.func20, Try.ntmps20
      go_wp2_with fail
      refine hc.out.mono ?_
      rintro e w1 ⟨rfl, hm1⟩
      obtain ⟨k0, k1, k2⟩ := hB.out.fix hm1
      replace hm := Lib.hid (hm.out.trans hm1)
      clear hm1
      go_wp2
      go_ret
      exact ⟨rfl, hm.out⟩
    · have hd : decide ((A.final.length : Int) < 1) = false := by simp; omega
      clear h2
      go_enter Try.func20, Try.ntmps20
      go_wp2_with fail
      refine hc.out.mono ?_
      rintro e w1 ⟨rfl, hm1⟩
      obtain ⟨k0, k1, k2⟩ := hB.out.fix hm1
      replace hm := Lib.hid (hm.out.trans hm1)
      clear hm1
      go_wp2
      go_ret
      exact ⟨rfl, hm.out⟩
  obtain ⟨h2, h3⟩ := h2
  have hd : decide ((A.final.length : Int) < 1) = false := by simp; omega
  by_cases h4 : A.to.length = A.ranks.length
  rotate_left
  · rw [chk_len h1h.out ⟨h2, h3⟩ h4]
    have hd4 : ((A.to.length : Int) != (A.ranks.length : Int)) = true := by simp; omega
    go_enter Try.func20, Try.ntmps20
    go_wp2_with fail
    refine hc.out.mono ?_
    rintro e w1 ⟨rfl, hm1⟩
    obtain ⟨k0, k1, k2⟩ := hB.out.fix hm1
    replace hm := Lib.hid (hm.out.trans hm1)
    clear hm1
    go_wp2
    go_ret
    exact ⟨rfl, hm.out⟩
  have hd4 : ((A.to.length : Int) != (A.ranks.length : Int)) = false := by simp; omega
  have h4h := Lib.hid h4
  clear h4
  have hok := Lib.hid (alphaE_ok h1h.out)
  generalize hC : chk A = C
  replace hC := Lib.hid hC
  go_enter Try.func20, Try.ntmps20
  go_wp2_with fail
  refine hc.out.mono ?_
  rintro e w1 ⟨rfl, hm1⟩
  have hB1 := Lib.hid (hB.out.fix hm1)
  obtain ⟨k0, k1, k2⟩ := hB1.out
  replace hm := Lib.hid (hm.out.trans hm1)
  have hA1 := Lib.hid (hA0.out.fix hm.out)
  clear hm1 hB hr hc
  go_wp2
  go_loop [34] (fun i => ∃ j : Nat, j ≤ A.to.length ∧ i = .int .i64 j ∧ ∀ (i : Nat) l k, i < j → A.to[i]? = some l → A.ranks[i]? = some k → l.length = wideN k A.final.length) (fun i => A.to.length - (intOf i).toNat)
  case atStart => exact ⟨0, by omega, rfl, fun i l k h => by omega⟩
  case round =>
    obtain ⟨j, hj, rfl, hall⟩ := hrel
    replace hall := Lib.hid hall
    by_cases hlt : j < A.to.length
    · obtain ⟨b, off, ra, rc, xs, rfl, hx, hxl, hcx, hrow⟩ := hA1.out.t.row (Mut.refl _ w1) hlt
      obtain ⟨b2, off2, k, rfl, hk, hck⟩ := hA1.out.r.slot (Mut.refl _ w1) (k := j) (by rw [← h4h.out]; exact hlt)
      have hk2 := hok.out.rng k (List.mem_of_getElem? hk)
      have hjr : j < A.ranks.length := by rw [← h4h.out]; exact hlt
      replace hx := Lib.hid hx
      replace hk := Lib.hid hk
      replace hrow := Lib.hid hrow
      by_cases hw : xs.length = wideN k A.final.length
      · have ht : ((xs.length : Int) != ((wideN k A.final.length : Nat) : Int)) = false := by simp [hw]
        have hwh := Lib.hid hw
        clear hw
        go_wp2_with fail
        refine (wide_any k A.final.length _ hk2 h3).mono ?_
        rintro e w2 ⟨rfl, rfl⟩
        go_wp2
        go_round
        case rel => exact ⟨j + 1, by omega, by go_num, fun i l k' hij hl hk' => by
          rcases Nat.lt_or_ge i j with e | e
          · exact hall.out i l k' e hl hk'
          · obtain rfl : i = j := by omega
            rw [hx.out] at hl; rw [hk.out] at hk'; cases hl; cases hk'; exact hwh.out⟩
        case measure => simp [intOf]; omega
      · have ht : ((xs.length : Int) != ((wideN k A.final.length : Nat) : Int)) = true := by simp; omega
        have hC3 : C = 3 := by rw [← hC.out]; exact chk_wide h1h.out ⟨h2, h3⟩ h4h.out hx.out hk.out hw
        subst hC3
        clear hw
        go_wp2_with fail
        refine (wide_any k A.final.length _ hk2 h3).mono ?_
        rintro e w2 ⟨rfl, rfl⟩
        go_wp2
        go_ret
        exact ⟨rfl, hm.out⟩
    · obtain rfl : j = A.to.length := by omega
      have hrest := Lib.hid (chk_rest h1h.out ⟨h2, h3⟩ h4h.out (fun i l k q1 q2 => hall.out i l k (List.getElem?_eq_some_iff.1 q1).1 q1 q2))
      clear hall
      go_wp2
      go_loopw [53] (fun i wr => ∃ j : Nat, j ≤ A.to.length ∧ i = .int .i64 j ∧ (∀ (i : Nat) l, i < j → A.to[i]? = some l → ∀ s ∈ l, ¬ (s < 0 ∨ (A.final.length : Int) ≤ s)) ∧ Fix w1 wr) (fun i _ => A.to.length - (intOf i).toNat)
      case atStart => exact ⟨0, by omega, rfl, fun i l h => by omega, Mut.refl _ _⟩
      case round =>
        obtain ⟨j, hj, rfl, hall, hmr⟩ := hrel
        replace hall := Lib.hid hall
        by_cases hlt : j < A.to.length
        · obtain ⟨b, off, ra, rc, xs, rfl, hx, hxl, hcx, hrow⟩ := hA1.out.t.row hmr hlt
          have hB2 := Lib.hid (hB1.out.fix hmr)
          have hA2 := Lib.hid (hA1.out.fix hmr)
          have hrow2 := Lib.hid (hrow.fix hmr)
          replace hx := Lib.hid hx
          replace hmr := Lib.hid hmr
          clear hrow
          by_cases hbad : ∃ s ∈ xs, s < 0 ∨ (A.final.length : Int) ≤ s
          · have hC2 : C = 2 := by
              rw [← hC.out]
              exact hrest.out.1 ⟨xs, List.mem_of_getElem? hx.out, hbad⟩
            subst hC2
            replace hbad := Lib.hid hbad
            go_wp2_with fail
            refine (containsFunc47 (fun x => !stB A.final.length x) 48 ⟨w.heap.size, 0, none⟩ _ xs _ hrow2.out enter48 (fun x _ w3 hm3 => notState48 w.heap.size _ _ _ A x w3 (hB2.out.fix hm3) (hA2.out.fix hm3)) true ?_).mono ?_
            · simp only [true_iff]
              obtain ⟨s, hs, h⟩ := hbad.out
              exact ⟨s, hs, by simp [stB]; omega⟩
            rintro e w4 ⟨rfl, hm4⟩
            replace hm := Lib.hid ((hm.out.trans hmr.out).trans hm4)
            clear hm4
            go_wp2
            go_ret
            exact ⟨rfl, hm.out⟩
          · have hno : ∀ s ∈ xs, ¬ (s < 0 ∨ (A.final.length : Int) ≤ s) := fun s hs h => hbad ⟨s, hs, h⟩
            replace hno := Lib.hid hno
            clear hbad
            go_wp2_with fail
            refine (containsFunc47 (fun x => !stB A.final.length x) 48 ⟨w.heap.size, 0, none⟩ _ xs _ hrow2.out enter48 (fun x _ w3 hm3 => notState48 w.heap.size _ _ _ A x w3 (hB2.out.fix hm3) (hA2.out.fix hm3)) false ?_).mono ?_
            · simp only [Bool.false_eq_true, false_iff]
              rintro ⟨s, hs, h⟩
              have := hno.out s hs
              simp [stB] at h; omega
            rintro e w4 ⟨rfl, hm4⟩
            replace hmr := Lib.hid (hmr.out.trans hm4)
            clear hm4
            go_wp2
            go_roundw
            case rel => exact ⟨j + 1, by omega, by go_num, fun i l hij hl => by
              rcases Nat.lt_or_ge i j with e | e
              · exact hall.out i l e hl
              · obtain rfl : i = j := by omega
                rw [hx.out] at hl; cases hl; exact hno.out, hmr.out⟩
            case measure => simp [intOf]; omega
        · obtain rfl : j = A.to.length := by omega
          have hC0 : C = 0 := by
            rw [← hC.out]
            exact hrest.out.2 (fun j l hl s hs => hall.out j l (List.getElem?_eq_some_iff.1 hl).1 hl s hs)
          subst hC0
          replace hm := Lib.hid (hm.out.trans hmr)
          clear hmr
          go_wp2
          go_ret
          exact ⟨rfl, hm.out⟩
end Go.Proofs.Ytdakoccbmeojhaa
