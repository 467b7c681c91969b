/- Contracts over data: quotients, common divisors, sums of many. No condition. -/
import Derived.Test.YtebbekdebanabaaDoorYL6
import Derived.Test.YtebbekdebanabaaDoorYL3
import Derived.Test.YtebbekdebanabaaDoorYM1
import Derived.Test.YtebbekdebanabaaDoorYW4

set_option linter.unusedSimpArgs false
set_option linter.unusedVariables false
set_option maxHeartbeats 4000000
set_option maxRecDepth 8000
namespace Go.Proofs.YtebbekdebanabaaDoor
open Go Go.RowKit Go.PP Go.Dm Go.Bn
theorem divmod_d (m n : Nat) (la : (dig BW m).length ≤ 100000) (lb : (dig BW n).length ≤ 100000) (h0 : 0 < n) : DFun Tryd.prog 17 [natD m, natD n] (.tup [natD (m / n), natD (m % n), .flat (.int .i64 0)]) := by
  rcases Nat.lt_or_ge m n with h | h
  · have := divmod_lt m n la lb h
    rwa [Nat.div_eq_of_lt h, Nat.mod_eq_of_lt h]
  · rcases Nat.lt_or_ge n 4294967296 with h1 | h1
    · exact divmod_1 m n la h0 h1 h
    · exact divmod_l m n la h1 h
theorem len_le {m n : Nat} (h : m ≤ n) {k : Nat} (hk : (dig BW n).length ≤ k) : (dig BW m).length ≤ k := Nat.le_trans (dig_len hBW (Nat.lt_of_le_of_lt h (dig_up hBW n))) hk
theorem gcd_d (m n : Nat) (la : (dig BW m).length ≤ 100000) (lb : (dig BW n).length ≤ 100000) : DFun Tryd.prog 22 [natD m, natD n] (natD (Nat.gcd m n)) := by
  refine DFun.enterA Tryd.func22 Tryd.ntmps22 ?_
  refine DW.walk ?_
  refine DW.loopA (fun s : Nat × Nat => ⟨[(2, .ref 2 0), (3, .ref 3 0), (4, .ref 4 0)], [(2, some (.box [wsD (dig BW s.1)])), (3, some (.box [wsD (dig BW s.2)])), (4, some (.box [.flat (.slice none 0 0)]))]⟩) (fun s => Nat.gcd s.1 s.2 = Nat.gcd m n ∧ (dig BW s.1).length ≤ 100000 ∧ (dig BW s.2).length ≤ 100000) (fun s => s.2) (m, n) ?_ ⟨rfl, la, lb⟩
  rintro ⟨x, y⟩ ⟨hg, hx, hy⟩
  have hg : Nat.gcd x y = Nat.gcd m n := hg
  have hx : (dig BW x).length ≤ 100000 := hx
  have hy : (dig BW y).length ≤ 100000 := hy
  dsimp only
  have hz := isz_d y
  by_cases h0 : y = 0
  · rw [decide_eq_true h0] at hz
    rw [← hg, h0, Nat.gcd_zero_right]
    rw [h0] at hz
    refine DW.walk ?_
    exact ⟨.inr rfl, ret25 rfl rfl rfl (Vw.pers rfl)⟩
  · rw [decide_eq_false h0] at hz
    have hd := divmod_d x y hx hy (by omega)
    have hlt : x % y < y := Nat.mod_lt _ (by omega)
    have hl := len_le (Nat.le_of_lt hlt) hy
    have hg2 : Nat.gcd y (x % y) = Nat.gcd m n := by rw [← hg, Nat.gcd_comm x y, Nat.gcd_rec y x, Nat.gcd_comm]
    refine DW.walk ?_
    exact ⟨(y, x % y), ⟨hg2, hy, hl⟩, hlt, Sub.auto⟩
theorem add_n (m n : Nat) (la : (dig BW m).length ≤ 100000) (lb : (dig BW n).length ≤ 100000) : DFun Tryd.prog 15 [natD m, natD n] (natD (m + n)) := by
  have h := add_d (dig BW m) (dig BW n) (dig_dg hBW m) (dig_dg hBW n) la lb
  rwa [val_dig hBW, val_dig hBW] at h
theorem mul_n (m n : Nat) (la : (dig BW m).length ≤ 100000) (lb : (dig BW n).length ≤ 100000) : DFun Tryd.prog 13 [natD m, natD n] (natD (m * n)) := by
  have h := mul_w (dig BW m) (dig BW n) (dig_dg hBW m) (dig_dg hBW n) la lb
  rwa [val_dig hBW, val_dig hBW] at h
/-- A number of at most k bits is short. -/
theorem len_bits {n k : Nat} (h : n < 2 ^ (32 * k)) : (dig BW n).length ≤ k := dig_len hBW (by
  have : (4294967296 : Nat) = 2 ^ 32 := by decide
  show n < 4294967296 ^ k
  rwa [this, ← Nat.pow_mul])
abbrev numL (l : List Nat) : List D := l.map fun n => wsD (dig BW n)
theorem part_num {l : List Nat} {i n : Nat} (h : l[i]? = some n) : partD true 1 (i * 1) (numL l) = some (natD n) := by
  have hi := (List.getElem?_eq_some_iff.1 h).1
  unfold partD
  rw [if_pos rfl, if_pos (by rw [List.length_map]; omega), Nat.mul_one, List.drop_eq_getElem_cons (by rw [List.length_map]; exact hi)]
  have e : l[i] = n := by rw [List.getElem?_eq_getElem hi] at h; exact Option.some.inj h
  simp [e]
theorem sum_d (l : List Nat) (hl : l.length ≤ 100) (hs : ∀ k, k ≤ l.length → (dig BW (l.take k).sum).length ≤ 100000) (hn : ∀ n ∈ l, (dig BW n).length ≤ 100000) : DFun Tryd.prog 42 [.sl true 1 l.length (numL l)] (natD l.sum) := by
  refine DFun.enterA Tryd.func42 Tryd.ntmps42 ?_
  have h00 : natW [] = natD 0 := by unfold natD; rw [dig_zero]
  refine DW.walk ?_
  refine DW.sub (s' := ⟨[(2, .ref 2 0), (3, .ref 3 0), (6, .sl true 1 l.length (numL l)), (7, .flat (.int .i64 (l.length : Nat))), (8, .flat (.int .i64 0))], [(2, some (.box [.flat (.slice none 0 0)])), (3, some (.box [wsD (dig BW 0)]))]⟩) (by
    rw [dig_zero]
    exact Sub.auto) ?_
  refine DW.loopA (fun i : Nat => ⟨[(2, .ref 2 0), (3, .ref 3 0), (6, .sl true 1 l.length (numL l)), (7, .flat (.int .i64 (l.length : Nat))), (8, .flat (.int .i64 (i : Nat)))], [(2, some (.box [.flat (.slice none 0 0)])), (3, some (.box [wsD (dig BW (l.take i).sum)]))]⟩) (fun i => i ≤ l.length) (fun i => l.length - i) 0 ?_ (Nat.zero_le _)
  intro i hi
  have h1 := hs i hi
  rcases Nat.lt_or_ge i l.length with hlt | hge
  · obtain ⟨n, hx⟩ : ∃ n, l[i]? = some n := ⟨_, List.getElem?_eq_getElem hlt⟩
    have h2 := part_num hx
    have h3 := hn n (List.mem_of_getElem? hx)
    have hst : (l.take (i + 1)).sum = (l.take i).sum + n := by rw [List.take_add_one, hx, Option.toList_some, List.sum_append]; simp
    have ha := add_n _ _ h1 h3
    rw [← hst] at ha
    generalize (l.take i).sum = x at *
    generalize hY : (l.take (i + 1)).sum = y at *
    refine DW.walk ?_
    subst hY
    exact ⟨i + 1, by omega, by omega, Sub.auto⟩
  · rw [List.take_of_length_le hge] at h1 ⊢
    obtain rfl : i = l.length := by omega
    refine DW.walk ?_
    exact ⟨.inr rfl, ret25 rfl rfl rfl (Vw.pers rfl)⟩
end Go.Proofs.YtebbekdebanabaaDoor
