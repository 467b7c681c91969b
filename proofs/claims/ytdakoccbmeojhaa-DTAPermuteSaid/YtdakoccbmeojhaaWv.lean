/- Contract of has of the reference. Condition: a list in memory. -/
import Derived.Test.YtdakoccbmeojhaaWu
set_option linter.unusedSimpArgs false
set_option linter.unusedVariables false
set_option maxHeartbeats 400000
namespace Go.Proofs.Ytdakoccbmeojhaa
open Go Go.RowKit Go.PP

theorem hasI_first {l : List Int} {x : Int} {i : Nat} (h : l[i]? = some x) (hn : ∀ (m : Nat) y, m < i → l[m]? = some y → y ≠ x) : hasI l x = i := by
  rw [hasI_mem (List.mem_of_getElem? h)]
  congr 1
  obtain ⟨h1, h2⟩ := List.getElem?_eq_some_iff.1 h
  induction l generalizing i with
  | nil => simp at h1
  | cons a l ih =>
    cases i with
    | zero => simp at h2; simp [h2]
    | succ i =>
      have ha : a ≠ x := hn 0 a (by omega) rfl
      rw [List.idxOf_cons]
      have : (a == x) = false := by simpa using ha
      rw [this]
      simp only [cond_false]
      rw [ih (i := i) (by simpa using h) (fun m y hm hy => hn (m + 1) y (by omega) (by simpa using hy)) (by simpa using h1) (by simpa using h2)]

set_option maxRecDepth 8000 in
set_option maxHeartbeats 2000000 in
theorem has_any (vl : Value) (l : List Int) (x : Int) (w : World) (hl : Ints (fun _ => False) w vl l) : Calls Try.prog 63 #[vl, .int .i64 x] w (RetPost w (.int .i64 (hasI l x))) := by
  have hl0 := Lib.hid hl
  obtain ⟨xa, xc, rfl, hxl⟩ := hl.open'
  clear hl
  go_enter Try.func63, Try.ntmps63
  go_wp2
  go_loopw [5] (fun i wr => ∃ j : Nat, j ≤ l.length ∧ i = .int .i64 j ∧ (∀ (m : Nat) y, m < j → l[m]? = some y → y ≠ x) ∧ Fix w wr) (fun i _ => l.length - (intOf i).toNat)
  case atStart => exact ⟨0, by omega, rfl, fun m y h => by omega, Mut.refl _ _⟩
  case round =>
    obtain ⟨j, hj, rfl, hall, hm⟩ := hrel
    by_cases hlt : j < l.length
    · obtain ⟨b, off, y, rfl, hy, hcy⟩ := hl0.out.slot hm hlt
      by_cases e : y = x
      · subst e
        have hh := hasI_first hy hall
        rw [hh]
        have ht : (y == y) = true := by simp
        replace hm := Lib.hid hm
        clear hall hh hy
        go_wp2
        go_ret
        exact ⟨rfl, hm.out⟩
      · have ht : (y == x) = false := by simpa using e
        have hall2 := Lib.hid (show ∀ (m : Nat) z, m < j + 1 → l[m]? = some z → z ≠ x from fun m z hmj hz => by
          rcases Nat.lt_or_ge m j with h | h
          · exact hall m z h hz
          · obtain rfl : m = j := by omega
            rw [hy] at hz; cases hz; exact e)
        replace hm := Lib.hid hm
        replace e := Lib.hid e
        clear hall hy
        go_wp2
        go_roundw
        case rel => exact ⟨j + 1, by omega, by go_num, hall2.out, hm.out⟩
        case measure => simp [intOf]; omega
    · obtain rfl : j = l.length := by omega
      have hh : hasI l x = -1 := hasI_no (fun h => by
        obtain ⟨m, hm⟩ := List.getElem?_of_mem h
        exact hall m x (List.getElem?_eq_some_iff.1 hm).1 hm rfl)
      replace hm := Lib.hid hm
      replace hh := Lib.hid hh
      clear hall
      go_wp2
      go_ret
      exact ⟨by rw [hh.out]; rfl, hm.out⟩
end Go.Proofs.Ytdakoccbmeojhaa
