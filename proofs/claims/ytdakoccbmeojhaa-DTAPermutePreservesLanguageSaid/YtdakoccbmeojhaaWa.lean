/- Contracts: few, the two checks of an alphabet, wide, places, state. Condition: lists in memory. -/
import Derived.Test.YtdakoccbmeojhaaProg
import Derived.Test.YtdakoccbmeojhaaP
import Derived.Deep.OwnRows
set_option linter.unusedSimpArgs false
set_option linter.unusedVariables false
set_option maxHeartbeats 400000
namespace Go.Proofs.Ytdakoccbmeojhaa
open Go Go.RowKit Go.PP

def RetPost (w : World) (v : Value) (e : Ending) (w' : World) : Prop := e = .returned v ∧ Fix w w'

set_option maxHeartbeats 1000000 in
theorem few_any (w : World) (v1 v2 v3 : Value) (A : Au) (hA : AuIn (fun _ => False) w v1 v2 v3 A) : Calls Try.prog 13 #[.agg #[v1, v2, v3]] w (RetPost w (.bool (fewB A))) := by
  have hT := Lib.hid hA.t
  obtain ⟨a1, c1, a2, c2, a3, c3, rfl, rfl, rfl, l1, l2, l3⟩ := hA.open
  clear hA
  have hm := Lib.hid ((Mut.refl (fun _ => False) w).alloc (.cells #[.slice a1 A.ranks.length c1, .slice a2 A.final.length c2, .slice a3 A.to.length c3] 26))
  by_cases h1 : A.final.length ≤ 6
  rotate_left
  · have hf : fewB A = false := by simp [fewB]; intros; omega
    rw [hf]
    go_enter Try.func13, Try.ntmps13
    go_wp2
    go_ret
    exact ⟨rfl, hm.out⟩
  by_cases h2 : A.ranks.length ≤ 6
  rotate_left
  · have hf : fewB A = false := by simp [fewB]; intros; omega
    rw [hf]
    go_enter Try.func13, Try.ntmps13
    go_wp2
    go_ret
    exact ⟨rfl, hm.out⟩
  by_cases h3 : A.to.length ≤ 7
  rotate_left
  · have hf : fewB A = false := by simp [fewB]; intros; omega
    rw [hf]
    go_enter Try.func13, Try.ntmps13
    go_wp2
    go_ret
    exact ⟨rfl, hm.out⟩
  have hF := Lib.hid (show fewB A = decide (∀ l ∈ A.to, l.length ≤ 40) by simp [fewB, h1, h2, h3])
  go_enter Try.func13, Try.ntmps13
  go_wp2
  go_loop [3] (fun i => ∃ k : Nat, k ≤ A.to.length ∧ i = .int .i64 k ∧ ∀ (j : Nat) l, j < k → A.to[j]? = some l → l.length ≤ 40) (fun i => A.to.length - (intOf i).toNat)
  case atStart => exact ⟨0, by omega, rfl, fun j l h => by omega⟩
  case round =>
    obtain ⟨k, hk, rfl, hall⟩ := hrel
    replace hall := Lib.hid hall
    by_cases hlt : k < A.to.length
    · obtain ⟨b, off, ra, rc, xs, rfl, hx, hxl, hcx, hrow⟩ := hT.out.row hm.out hlt
      replace hx := Lib.hid hx
      replace hrow := Lib.hid hrow
      by_cases hb : xs.length ≤ 40
      · go_wp2
        go_round
        case rel => exact ⟨k + 1, by omega, by go_num, fun j l hj hl => by
          rcases Nat.lt_or_ge j k with e | e
          · exact hall.out j l e hl
          · obtain rfl : j = k := by omega
            rw [hx.out] at hl; cases hl; exact hb⟩
        case measure => simp [intOf]; omega
      · have hf : fewB A = false := by
          rw [hF.out, decide_eq_false_iff_not]
          intro h
          exact hb (h xs (List.mem_of_getElem? hx.out))
        rw [hf]
        go_wp2
        go_ret
        exact ⟨rfl, hm.out⟩
    · obtain rfl : k = A.to.length := by omega
      have hf : fewB A = true := by
        rw [hF.out, decide_eq_true_eq]
        intro l hl
        obtain ⟨j, hj⟩ := List.getElem?_of_mem hl
        exact hall.out j l (List.getElem?_eq_some_iff.1 hj).1 hj
      rw [hf]
      go_wp2
      go_ret
      exact ⟨rfl, hm.out⟩

/-! ### the alphabet -/
def badR (x : Int) : Bool := decide (x < 0 ∨ 2 < x)
theorem badR_any (x : Int) (w : World) : Calls Try.prog 74 #[.int .i64 x] w (RetPost w (.bool (badR x))) := by
  by_cases h : x < 0
  · rw [show badR x = true by simp [badR, h]]
    go_enter Try.func74, Try.ntmps74
    go_wp2
    go_ret
    exact ⟨rfl, Mut.refl _ _⟩
  · have hd : badR x = decide (2 < x) := by simp [badR, h]
    have h' : decide (x < 0) = false := by simp; omega
    rw [hd]
    clear hd
    go_enter Try.func74, Try.ntmps74
    go_wp2
    go_ret
    exact ⟨rfl, Mut.refl _ _⟩

def IndexPost (w : World) (f : Int → Bool) (xs : List Int) (e : Ending) (w' : World) : Prop := ∃ i : Int, e = .returned (.int .i64 i) ∧ (0 ≤ i ↔ ∃ x ∈ xs, f x = true) ∧ Fix w w'

theorem indexFunc83 (v : Value) (xs : List Int) (w : World) (hv : Ints (fun _ => False) w v xs) :
    Calls Try.prog 83 #[v, .func (.func 74) #[] #[]] w (IndexPost w badR xs) := by
  have hv0 := Lib.hid hv
  obtain ⟨a, c, rfl, hl⟩ := hv.open'
  clear hv
  go_enter Try.func83, Try.ntmps83
  go_wp2
  go_loopw [8] (fun i wr => ∃ j : Nat, j ≤ xs.length ∧ i = .int .i64 j ∧ (∀ (m : Nat) x, m < j → xs[m]? = some x → badR x = false) ∧ Fix w wr) (fun i _ => xs.length - (intOf i).toNat)
  case atStart => exact ⟨0, by omega, rfl, fun m x h => by omega, Mut.refl _ _⟩
  case round =>
    obtain ⟨j, hj, rfl, hall, hm⟩ := hrel
    replace hall := Lib.hid hall
    by_cases hlt : j < xs.length
    · obtain ⟨b, off, x, rfl, hx, hcx⟩ := hv0.out.slot hm hlt
      replace hx := Lib.hid hx
      replace hm := Lib.hid hm
      go_wp2_with fail
      refine (badR_any x _).mono ?_
      rintro e w2 ⟨rfl, hm2⟩
      replace hm := Lib.hid (hm.out.trans hm2)
      clear hm2
      cases hfx : badR x
      · go_wp2
        go_roundw
        case rel => exact ⟨j + 1, by omega, by go_num, fun m y hmj hy => by
          rcases Nat.lt_or_ge m j with e | e
          · exact hall.out m y e hy
          · obtain rfl : m = j := by omega
            rw [hx.out] at hy; cases hy; exact hfx, hm.out⟩
        case measure => simp [intOf]; omega
      · have hex := Lib.hid (List.mem_of_getElem? hx.out)
        replace hfx := Lib.hid hfx
        go_wp2
        go_ret
        exact ⟨j, rfl, ⟨fun _ => ⟨x, hex.out, hfx.out⟩, fun _ => by omega⟩, hm.out⟩
    · obtain rfl : j = xs.length := by omega
      replace hm := Lib.hid hm
      go_wp2
      go_ret
      exact ⟨-1, rfl, ⟨fun h => by omega, fun ⟨x, hx, hf⟩ => by
        obtain ⟨m, hm⟩ := List.getElem?_of_mem hx
        rw [hall.out m x (List.getElem?_eq_some_iff.1 hm).1 hm] at hf; cases hf⟩, hm.out⟩

theorem containsFunc73 (v : Value) (xs : List Int) (w : World) (hv : Ints (fun _ => False) w v xs) (b : Bool) (hb : b = true ↔ ∃ x ∈ xs, badR x = true) :
    Calls Try.prog 73 #[v, .func (.func 74) #[] #[]] w (RetPost w (.bool b)) := by
  have hv0 := Lib.hid hv
  obtain ⟨a, c, rfl, hl⟩ := hv.open'
  clear hv
  replace hb := Lib.hid hb
  go_enter Try.func73, Try.ntmps73
  go_wp2_with fail
  refine (indexFunc83 _ xs _ hv0.out).mono ?_
  rintro e w2 ⟨i, rfl, hi, hm2⟩
  have hd : decide (0 ≤ i) = b := by
    cases b
    · simp; have := mt hi.1 (fun h => by have := hb.out.2 h; cases this); omega
    · simp; exact hi.2 (hb.out.1 rfl)
  replace hm2 := Lib.hid hm2
  clear hi
  go_wp2
  go_ret
  exact ⟨rfl, hm2.out⟩

/-- The general one: the closure has one captured variable. -/
theorem indexFunc76 (f : Int → Bool) (k : Nat) (p : Addr) (v : Value) (xs : List Int) (w : World) (hv : Ints (fun _ => False) w v xs)
    (hk : ∀ args w, (callFunc k args).run Try.prog w = .ok (.enter k args) w) (hcall : ∀ x ∈ xs, ∀ wr, Fix w wr → Calls Try.prog k #[.int .i64 x, .pointer (some p)] wr (RetPost wr (.bool (f x)))) :
    Calls Try.prog 76 #[v, .func (.func k) #[] #[.pointer (some p)]] w (IndexPost w f xs) := by
  have hv0 := Lib.hid hv
  obtain ⟨a, c, rfl, hl⟩ := hv.open'
  clear hv
  replace hcall := Lib.hid hcall
  go_enter Try.func76, Try.ntmps76
  go_wp2
  go_loopw [8] (fun i wr => ∃ j : Nat, j ≤ xs.length ∧ i = .int .i64 j ∧ (∀ (m : Nat) x, m < j → xs[m]? = some x → f x = false) ∧ Fix w wr) (fun i _ => xs.length - (intOf i).toNat)
  case atStart => exact ⟨0, by omega, rfl, fun m x h => by omega, Mut.refl _ _⟩
  case round =>
    obtain ⟨j, hj, rfl, hall, hm⟩ := hrel
    replace hall := Lib.hid hall
    by_cases hlt : j < xs.length
    · obtain ⟨b, off, x, rfl, hx, hcx⟩ := hv0.out.slot hm hlt
      replace hx := Lib.hid hx
      replace hm := Lib.hid hm
      go_wp2_with fail
      refine (hcall.out x (List.mem_of_getElem? hx.out) _ hm.out).mono ?_
      rintro e w2 ⟨rfl, hm2⟩
      replace hm := Lib.hid (hm.out.trans hm2)
      clear hm2
      cases hfx : f x
      · go_wp2
        go_roundw
        case rel => exact ⟨j + 1, by omega, by go_num, fun m y hmj hy => by
          rcases Nat.lt_or_ge m j with e | e
          · exact hall.out m y e hy
          · obtain rfl : m = j := by omega
            rw [hx.out] at hy; cases hy; exact hfx, hm.out⟩
        case measure => simp [intOf]; omega
      · have hex := Lib.hid (List.mem_of_getElem? hx.out)
        replace hfx := Lib.hid hfx
        go_wp2
        go_ret
        exact ⟨j, rfl, ⟨fun _ => ⟨x, hex.out, hfx.out⟩, fun _ => by omega⟩, hm.out⟩
    · obtain rfl : j = xs.length := by omega
      replace hm := Lib.hid hm
      go_wp2
      go_ret
      exact ⟨-1, rfl, ⟨fun h => by omega, fun ⟨x, hx, hf⟩ => by
        obtain ⟨m, hm⟩ := List.getElem?_of_mem hx
        rw [hall.out m x (List.getElem?_eq_some_iff.1 hm).1 hm] at hf; cases hf⟩, hm.out⟩

theorem containsFunc47 (f : Int → Bool) (k : Nat) (p : Addr) (v : Value) (xs : List Int) (w : World) (hv : Ints (fun _ => False) w v xs)
    (hk : ∀ args w, (callFunc k args).run Try.prog w = .ok (.enter k args) w) (hcall : ∀ x ∈ xs, ∀ wr, Fix w wr → Calls Try.prog k #[.int .i64 x, .pointer (some p)] wr (RetPost wr (.bool (f x)))) (b : Bool) (hb : b = true ↔ ∃ x ∈ xs, f x = true) :
    Calls Try.prog 47 #[v, .func (.func k) #[] #[.pointer (some p)]] w (RetPost w (.bool b)) := by
  have h76 := Lib.hid (indexFunc76 f k p v xs w hv hk hcall)
  obtain ⟨a, c, rfl, hl⟩ := hv.open'
  clear hv hk hcall
  replace hb := Lib.hid hb
  go_enter Try.func47, Try.ntmps47
  go_wp2_with fail
  refine h76.out.mono ?_
  rintro e w2 ⟨i, rfl, hi, hm2⟩
  have hd : decide (0 ≤ i) = b := by
    cases b
    · simp; have := mt hi.1 (fun h => by have := hb.out.2 h; cases this); omega
    · simp; exact hi.2 (hb.out.1 rfl)
  replace hm2 := Lib.hid hm2
  clear hi
  go_wp2
  go_ret
  exact ⟨rfl, hm2.out⟩

theorem index84 (y : Int) (v : Value) (xs : List Int) (w : World) (hv : Ints (fun _ => False) w v xs) :
    Calls Try.prog 84 #[v, .int .i64 y] w (fun e w' => ∃ i : Int, e = .returned (.int .i64 i) ∧ (0 ≤ i ↔ y ∈ xs) ∧ w = w') := by
  have hv0 := Lib.hid hv
  obtain ⟨a, c, rfl, hl⟩ := hv.open'
  clear hv
  go_enter Try.func84, Try.ntmps84
  go_wp2
  go_loop [8] (fun i => ∃ j : Nat, j ≤ xs.length ∧ i = .int .i64 j ∧ (∀ (m : Nat) x, m < j → xs[m]? = some x → y ≠ x)) (fun i => xs.length - (intOf i).toNat)
  case atStart => exact ⟨0, by omega, rfl, fun m x h => by omega⟩
  case round =>
    obtain ⟨j, hj, rfl, hall⟩ := hrel
    replace hall := Lib.hid hall
    by_cases hlt : j < xs.length
    · obtain ⟨b, off, x, rfl, hx, hcx⟩ := hv0.out.slot (Mut.refl _ w) hlt
      replace hx := Lib.hid hx
      by_cases hyx : y = x
      · have ht : (y == x) = true := by simp [hyx]
        replace hyx := Lib.hid hyx
        go_wp2
        go_ret
        exact ⟨j, rfl, ⟨fun _ => by rw [hyx.out]; exact List.mem_of_getElem? hx.out, fun _ => by omega⟩, rfl⟩
      · have ht : (y == x) = false := by simp [hyx]
        replace hyx := Lib.hid hyx
        go_wp2
        go_round
        case rel => exact ⟨j + 1, by omega, by go_num, fun m z hmj hz => by
          rcases Nat.lt_or_ge m j with e | e
          · exact hall.out m z e hz
          · obtain rfl : m = j := by omega
            rw [hx.out] at hz; cases hz; exact hyx.out⟩
        case measure => simp [intOf]; omega
    · obtain rfl : j = xs.length := by omega
      go_wp2
      go_ret
      exact ⟨-1, rfl, ⟨fun h => by omega, fun hx => by
        obtain ⟨m, hm⟩ := List.getElem?_of_mem hx
        exact absurd rfl (hall.out m y (List.getElem?_eq_some_iff.1 hm).1 hm)⟩, rfl⟩

theorem contains75 (y : Int) (v : Value) (xs : List Int) (w : World) (hv : Ints (fun _ => False) w v xs) :
    Calls Try.prog 75 #[v, .int .i64 y] w (RetPost w (.bool (decide (y ∈ xs)))) := by
  have hv0 := Lib.hid hv
  obtain ⟨a, c, rfl, hl⟩ := hv.open'
  clear hv
  generalize hb : decide (y ∈ xs) = b
  replace hb := Lib.hid hb
  go_enter Try.func75, Try.ntmps75
  go_wp2_with fail
  refine (index84 y _ xs _ hv0.out).mono ?_
  rintro e w2 ⟨i, rfl, hi, rfl⟩
  have hd : decide (0 ≤ i) = b := by rw [← hb.out]; simp [hi]
  clear hi
  go_wp2
  go_ret
  exact ⟨rfl, Mut.refl _ _⟩

/-- rankedtree's check of an alphabet. -/
theorem alpha_any (v : Value) (r : List Int) (w : World) (hv : Ints (fun _ => False) w v r) : Calls Try.prog 45 #[v] w (RetPost w (.int .i64 (alphaE r : Nat))) := by
  have hv0 := Lib.hid hv
  obtain ⟨a, c, rfl, hl⟩ := hv.open'
  clear hv
  by_cases h1 : r.length < 1
  · rw [show alphaE r = 2 by unfold alphaE; rw [if_pos (by omega)]]
    have hd : decide ((r.length : Int) < 1) = true := by simp; omega
    go_enter Try.func45, Try.ntmps45
    go_wp2
    go_ret
    exact ⟨rfl, Mut.refl _ _⟩
  by_cases h2 : 4096 < r.length
  · rw [show alphaE r = 2 by unfold alphaE; rw [if_pos (by omega)]]
    go_enter Try.func45, Try.ntmps45
    go_wp2
    go_ret
    exact ⟨rfl, Mut.refl _ _⟩
  by_cases h3 : ∃ x ∈ r, x < 0 ∨ 2 < x
  · rw [show alphaE r = 3 by unfold alphaE; rw [if_neg (by omega), if_pos h3]]
    replace h3 := Lib.hid h3
    go_enter Try.func45, Try.ntmps45
    go_wp2_with fail
    refine (containsFunc73 _ r _ hv0.out true (by simpa [badR] using h3.out)).mono ?_
    rintro e w2 ⟨rfl, hm⟩
    replace hm := Lib.hid hm
    go_wp2
    go_ret
    exact ⟨rfl, hm.out⟩
  have h4 : alphaE r = if (0 : Int) ∈ r then 0 else 9 := by unfold alphaE; rw [if_neg (by omega), if_neg h3]
  replace h3 := Lib.hid h3
  by_cases h5 : (0 : Int) ∈ r
  · rw [h4, if_pos h5]
    clear h4
    replace h5 := Lib.hid h5
    go_enter Try.func45, Try.ntmps45
    go_wp2_with fail
    refine (containsFunc73 _ r _ hv0.out false (by simpa [badR] using h3.out)).mono ?_
    rintro e w2 ⟨rfl, hm⟩
    replace hm := Lib.hid hm
    go_wp2_with fail
    refine (contains75 0 _ r _ (hv0.out.fix hm.out)).mono ?_
    rw [show decide ((0 : Int) ∈ r) = true by simpa using h5.out]
    rintro e w3 ⟨rfl, hm2⟩
    replace hm := Lib.hid (hm.out.trans hm2)
    clear hm2
    go_wp2
    go_ret
    exact ⟨rfl, hm.out⟩
  · rw [h4, if_neg h5]
    clear h4
    replace h5 := Lib.hid h5
    go_enter Try.func45, Try.ntmps45
    go_wp2_with fail
    refine (containsFunc73 _ r _ hv0.out false (by simpa [badR] using h3.out)).mono ?_
    rintro e w2 ⟨rfl, hm⟩
    replace hm := Lib.hid hm
    go_wp2_with fail
    refine (contains75 0 _ r _ (hv0.out.fix hm.out)).mono ?_
    rw [show decide ((0 : Int) ∈ r) = false by simpa using h5.out]
    rintro e w3 ⟨rfl, hm2⟩
    replace hm := Lib.hid (hm.out.trans hm2)
    clear hm2
    go_wp2
    go_ret
    exact ⟨rfl, hm.out⟩

/-- The reference's. -/
theorem ralpha_any (v : Value) (r : List Int) (w : World) (hv : Ints (fun _ => False) w v r) : Calls Try.prog 50 #[v] w fun e w' => e = .returned (.int .i64 (alphaE r : Nat)) ∧ w = w' := by
  have hv0 := Lib.hid hv
  obtain ⟨a, c, rfl, hl⟩ := hv.open'
  clear hv
  by_cases h1 : r.length = 0
  · rw [show alphaE r = 2 by unfold alphaE; rw [if_pos (by omega)]]
    have hd : ((r.length : Int) == 0) = true := by simp; simpa using h1
    go_enter Try.func50, Try.ntmps50
    go_wp2
    go_ret
    exact ⟨rfl, rfl⟩
  have hd : ((r.length : Int) == 0) = false := by simp; intro e; simp [e] at h1
  by_cases h2 : 4096 < r.length
  · rw [show alphaE r = 2 by unfold alphaE; rw [if_pos (by omega)]]
    go_enter Try.func50, Try.ntmps50
    go_wp2
    go_ret
    exact ⟨rfl, rfl⟩
  generalize hE : alphaE r = E
  replace hE := Lib.hid hE
  go_enter Try.func50, Try.ntmps50
  go_wp2
  go_loop [3, 4] (fun b i => ∃ k : Nat, k ≤ r.length ∧ i = .int .i64 k ∧ (∀ (j : Nat) x, j < k → r[j]? = some x → 0 ≤ x ∧ x ≤ 2) ∧ ∃ q : Bool, b = .bool q ∧ (q = true ↔ ∀ (j : Nat) x, j < k → r[j]? = some x → x ≠ 0)) (fun _ i => r.length - (intOf i).toNat)
  case atStart => exact ⟨0, by omega, rfl, fun j x h => by omega, true, rfl, fun _ j x h => by omega, fun _ => rfl⟩
  case round =>
    obtain ⟨k, hk, rfl, hall, q, rfl, hq⟩ := hrel
    replace hall := Lib.hid hall
    replace hq := Lib.hid hq
    by_cases hlt : k < r.length
    · obtain ⟨b, off, x, rfl, hx, hcx⟩ := hv0.out.slot (Mut.refl _ w) hlt
      replace hx := Lib.hid hx
      by_cases hx0 : x < 0
      · have hE3 : E = 3 := by rw [← hE.out]; unfold alphaE; rw [if_neg (by omega), if_pos ⟨x, List.mem_of_getElem? hx.out, .inl hx0⟩]
        subst hE3
        go_wp2
        go_ret
        exact ⟨rfl, rfl⟩
      by_cases hx2 : 2 < x
      · have hE3 : E = 3 := by rw [← hE.out]; unfold alphaE; rw [if_neg (by omega), if_pos ⟨x, List.mem_of_getElem? hx.out, .inr hx2⟩]
        subst hE3
        go_wp2
        go_ret
        exact ⟨rfl, rfl⟩
      have ha : ∀ (j : Nat) y, j < k + 1 → r[j]? = some y → 0 ≤ y ∧ y ≤ 2 := fun j y hj hy => by
        rcases Nat.lt_or_ge j k with e | e
        · exact hall.out j y e hy
        · obtain rfl : j = k := by omega
          rw [hx.out] at hy; cases hy; omega
      replace ha := Lib.hid ha
      have hq2 : (q && decide (0 < x)) = true ↔ ∀ (j : Nat) y, j < k + 1 → r[j]? = some y → y ≠ 0 := by
        rw [Bool.and_eq_true, hq.out, decide_eq_true_eq]
        constructor
        · rintro ⟨h3, h4⟩ j y hj hy
          rcases Nat.lt_or_ge j k with e | e
          · exact h3 j y e hy
          · obtain rfl : j = k := by omega
            rw [hx.out] at hy; cases hy; omega
        · intro h3
          exact ⟨fun j y hj hy => h3 j y (by omega) hy, by have := h3 k x (by omega) hx.out; omega⟩
      replace hq2 := Lib.hid hq2
      cases q
      · go_wp2
        go_round
        case rel => exact ⟨k + 1, by omega, by go_num, ha.out, false, rfl, by simpa using hq2.out⟩
        case measure => simp [intOf]; omega
      · by_cases hp : 0 < x
        · go_wp2
          go_round
          case rel => exact ⟨k + 1, by omega, by go_num, ha.out, true, rfl, by simpa [hp] using hq2.out⟩
          case measure => simp [intOf]; omega
        · go_wp2
          go_round
          case rel => exact ⟨k + 1, by omega, by go_num, ha.out, false, rfl, by simpa [hp] using hq2.out⟩
          case measure => simp [intOf]; omega
    · obtain rfl : k = r.length := by omega
      have hnb : ¬ ∃ x ∈ r, x < 0 ∨ 2 < x := by
        rintro ⟨x, hx, h⟩
        obtain ⟨m, hm⟩ := List.getElem?_of_mem hx
        have := hall.out m x (List.getElem?_eq_some_iff.1 hm).1 hm
        omega
      have hE4 : E = if (0 : Int) ∈ r then 0 else 9 := by rw [← hE.out]; unfold alphaE; rw [if_neg (by omega), if_neg hnb]
      cases q
      · have hE0 : E = 0 := by
          rw [hE4, if_pos]
          have h := mt hq.out.2 (by simp)
          refine Classical.byContradiction fun hn => h fun j x hj hx e => hn ?_
          subst e; exact List.mem_of_getElem? hx
        subst hE0
        clear hE4 hnb
        go_wp2
        go_ret
        exact ⟨rfl, rfl⟩
      · have hE0 : E = 9 := by
          rw [hE4, if_neg]
          intro hm
          obtain ⟨m, hm⟩ := List.getElem?_of_mem hm
          exact hq.out.1 rfl m 0 (List.getElem?_eq_some_iff.1 hm).1 hm rfl
        subst hE0
        clear hE4 hnb
        go_wp2
        go_ret
        exact ⟨rfl, rfl⟩

/-! ### wide, places, state -/
theorem wide_any (k : Int) (n : Nat) (w : World) (hk : 0 ≤ k ∧ k ≤ 2) (hn : n ≤ 512) : Calls Try.prog 46 #[.int .i64 k, .int .i64 n] w fun e w' => e = .returned (.int .i64 (wideN k n : Nat)) ∧ w = w' := by
  have hnn : 0 ≤ (n : Int) * n ∧ (n : Int) * n ≤ 262144 := by
    have h1 : (n : Int) * n ≤ 512 * n := Int.mul_le_mul_of_nonneg_right (by omega) (by omega)
    exact ⟨Int.mul_nonneg (by omega) (by omega), by omega⟩
  obtain ⟨m1, m2⟩ := hnn
  rcases (show k = 0 ∨ k = 1 ∨ k = 2 by omega) with rfl | rfl | rfl
  · rw [show wideN 0 n = 1 by simp [wideN]]
    go_enter Try.func46, Try.ntmps46
    go_wp2
    refine wp_loop_once ?_
    go_wp2
    go_ret
    exact ⟨rfl, rfl⟩
  · rw [show wideN 1 n = n by simp [wideN]]
    go_enter Try.func46, Try.ntmps46
    go_wp2
    go_loop [5, 7] (fun o i => (i = .int .i64 0 ∧ o = .int .i64 1) ∨ (i = .int .i64 1 ∧ o = .int .i64 n)) (fun _ i => 1 - (intOf i).toNat)
    case atStart => exact .inl ⟨rfl, rfl⟩
    case round =>
      rcases hrel with ⟨rfl, rfl⟩ | ⟨rfl, rfl⟩
      · go_wp2
        go_round
        case rel => exact .inr ⟨by go_num, by go_num⟩
        case measure => simp [intOf]
      · go_wp2
        go_ret
        exact ⟨rfl, rfl⟩
  · rw [show ((wideN 2 n : Nat) : Int) = (n : Int) * n by simp [wideN, Nat.pow_succ]]
    go_enter Try.func46, Try.ntmps46
    go_wp2
    go_loop [5, 7] (fun o i => (i = .int .i64 0 ∧ o = .int .i64 1) ∨ (i = .int .i64 1 ∧ o = .int .i64 n) ∨ (i = .int .i64 2 ∧ o = .int .i64 ((n : Int) * n))) (fun _ i => 2 - (intOf i).toNat)
    case atStart => exact .inl ⟨rfl, rfl⟩
    case round =>
      rcases hrel with ⟨rfl, rfl⟩ | ⟨rfl, rfl⟩ | ⟨rfl, rfl⟩
      · go_wp2
        go_round
        case rel => exact .inr (.inl ⟨by go_num, by go_num⟩)
        case measure => simp [intOf]
      · go_wp2
        go_round
        case rel => exact .inr (.inr ⟨by go_num, by go_num⟩)
        case measure => simp [intOf]
      · go_wp2
        go_ret
        exact ⟨rfl, rfl⟩
end Go.Proofs.Ytdakoccbmeojhaa
