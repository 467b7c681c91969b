/- Contracts over data: quotients, common divisors, sums of many. No condition. -/
import Derived.Test.YtebbekdebanabaaDoorYL6
import Derived.Test.YtebbekdebanabaaDoorYL3
import Derived.Test.YtebbekdebanabaaDoorYM1
import Derived.Test.YtebbekdebanabaaDoorYW4

set_option linter.unusedSimpArgs false
set_option linter.unusedVariables false
set_option maxHeartbeats 4000000
set_option maxRecDepth 8000
namespace Go.Proofs.YtebbekdebanabaaDoor
open Go Go.RowKit Go.PP Go.Dm Go.Bn
theorem divmod_d (m n : Nat) (la : (dig BW m).length ≤ 100000) (lb : (dig BW n).length ≤ 100000) (h0 : 0 < n) : DFun Tryd.prog 17 [natD m, natD n] (.tup [natD (m / n), natD (m % n), .flat (.int .i64 0)]) := by
  rcases Nat.lt_or_ge m n with h | h
  · have := divmod_lt m n la lb h
    rwa [Nat.div_eq_of_lt h, Nat.mod_eq_of_lt h]
  · rcases Nat.lt_or_ge n 4294967296 with h1 | h1
    · exact divmod_1 m n la h0 h1 h
    · exact divmod_l m n la h1 h
theorem len_le {m n : Nat} (h : m ≤ n) {k : Nat} (hk : (dig BW n).length ≤ k) : (dig BW m).length ≤ k := Nat.le_trans (dig_len hBW (Nat.lt_of_le_of_lt h (dig_up hBW n))) hk
theorem gcd_d (m n : Nat) (la : (dig BW m).length ≤ 100000) (lb : (dig BW n).length ≤ 100000) : DFun Tryd.prog 22 [natD m, natD n] (natD (Nat.gcd m n)) := by
  refine DFun.enterA Tryd.func22 Tryd.ntmps22 ?_
  refine DW.walk ?_
  refine DW.loopA (fun s : Nat × Nat => ⟨[(2, .ref 2 0), (3, .ref 3 0), (4, .ref 4 0)], [(2, some (.box [wsD (dig BW s.1)])), (3, some (.box [wsD (dig BW s.2)])), (4, some (.box [.flat (.slice none 0 0)]))]⟩) (fun s => Nat.gcd s.1 s.2 = Nat.gcd m n ∧ (dig BW s.1).length ≤ 100000 ∧ (dig BW s.2).length ≤ 100000) (fun s => s.2) (m, n) ?_ ⟨rfl, la, lb⟩
  rintro ⟨x, y⟩ ⟨hg, hx, hy⟩
  have hg : Nat.gcd x y = Nat.gcd m n := hg
  have hx : (dig BW x).length ≤ 100000 := hx
  have hy : (dig BW y).length ≤ 100000 := hy
  dsimp only
  have hz := isz_d y
  by_cases h0 : y = 0
  · rw [decide_eq_true h0] at hz
    rw [← hg, h0, Nat.gcd_zero_right]
    rw [h0] at hz
    refine DW.walk ?_
    exact ⟨.inr rfl, ret25 rfl rfl rfl (Vw.pers rfl)⟩
  · rw [decide_eq_false h0] at hz
    have hd := divmod_d x y hx hy (by omega)
    have hlt : x % y < y := Nat.mod_lt _ (by omega)
    have hl := len_le (Nat.le_of_lt hlt) hy
    have hg2 : Nat.gcd y (x % y) = Nat.gcd m n := by rw [← hg, Nat.gcd_comm x y, Nat.gcd_rec y x, Nat.gcd_comm]
    refine DW.walk ?_
    exact ⟨(y, x % y), ⟨hg2, hy, hl⟩, hlt, Sub.auto⟩
theorem add_n (m n : Nat) (la : (dig BW m).length ≤ 100000) (lb : (dig BW n).length ≤ 100000) : DFun Tryd.prog 15 [natD m, natD n] (natD (m + n)) := by
  have h := add_d (dig BW m) (dig BW n) (dig_dg hBW m) (dig_dg hBW n) la lb
  rwa [val_dig hBW, val_dig hBW] at h
theorem mul_n (m n : Nat) (la : (dig BW m).length ≤ 100000) (lb : (dig BW n).length ≤ 100000) : DFun Tryd.prog 13 [natD m, natD n] (natD (m * n)) := by
  have h := mul_w (dig BW m) (dig BW n) (dig_dg hBW m) (dig_dg hBW n) la lb
  rwa [val_dig hBW, val_dig hBW] at h
/-- A number of at most k bits is short. -/
theorem len_bits {n k : Nat} (h : n < 2 ^ (32 * k)) : (dig BW n).length ≤ k := dig_len hBW (by
  have : (4294967296 : Nat) = 2 ^ 32 := by decide
  show n < 4294967296 ^ k
  rwa [this, ← Nat.pow_mul])
abbrev numL (l : List Nat) : List D := l.map fun n => wsD (dig BW n)
theorem part_num {l : List Nat} {i n : Nat} (h : l[i]? = some n) : partD true 1 (i * 1) (numL l) = some (natD n) := by
  have hi := (List.getElem?_eq_some_iff.1 h).1
  unfold partD
  rw [if_pos rfl, if_pos (by rw [List.length_map]; omega), Nat.mul_one, List.drop_eq_getElem_cons (by rw [List.length_map]; exact hi)]
  have e : l[i] = n := by rw [List.getElem?_eq_getElem hi] at h; exact Option.some.inj h
  simp [e]
theorem sum_d (l : List Nat) (hl : l.length ≤ 100) (hs : ∀ k, k ≤ l.length → (dig BW (l.take k).sum).length ≤ 100000) (hn : ∀ n ∈ l, (dig BW n).length ≤ 100000) : DFun Tryd.prog 42 [.sl true 1 l.length (numL l)] (natD l.sum) := by
  refine DFun.enterA Tryd.func42 Tryd.ntmps42 ?_
  have h00 : natW [] = natD 0 := by unfold natD; rw [dig_zero]
  refine DW.walk ?_
  refine DW.sub (s' := ⟨[(2, .ref 2 0), (3, .ref 3 0), (6, .sl true 1 l.length (numL l)), (7, .flat (.int .i64 (l.length : Nat))), (8, .flat (.int .i64 0))], [(2, some (.box [.flat (.slice none 0 0)])), (3, some (.box [wsD (dig BW 0)]))]⟩) (by
    rw [dig_zero]
    exact Sub.auto) ?_
  refine DW.loopA (fun i : Nat => ⟨[(2, .ref 2 0), (3, .ref 3 0), (6, .sl true 1 l.length (numL l)), (7, .flat (.int .i64 (l.length : Nat))), (8, .flat (.int .i64 (i : Nat)))], [(2, some (.box [.flat (.slice none 0 0)])), (3, some (.box [wsD (dig BW (l.take i).sum)]))]⟩) (fun i => i ≤ l.length) (fun i => l.length - i) 0 ?_ (Nat.zero_le _)
  intro i hi
  have h1 := hs i hi
  rcases Nat.lt_or_ge i l.length with hlt | hge
  · obtain ⟨n, hx⟩ : ∃ n, l[i]? = some n := ⟨_, List.getElem?_eq_getElem hlt⟩
    have h2 := part_num hx
    have h3 := hn n (List.mem_of_getElem? hx)
    have hst : (l.take (i + 1)).sum = (l.take i).sum + n := by rw [List.take_add_one, hx, Option.toList_some, List.sum_append]; simp
    have ha := add_n _ _ h1 h3
    rw [← hst] at ha
    generalize (l.take i).sum = x at *
    generalize hY : (l.take (i + 1)).sum = y at *
    refine DW.walk ?_
    subst hY
    exact ⟨i + 1, by omega, by omega, Sub.auto⟩
  · rw [List.take_of_length_le hge] at h1 ⊢
    obtain rfl : i = l.length := by omega
    refine DW.walk ?_
    exact ⟨.inr rfl, ret25 rfl rfl rfl (Vw.pers rfl)⟩
end Go.Proofs.YtebbekdebanabaaDoor

set_option linter.unusedSimpArgs false
set_option linter.unusedVariables false
set_option maxHeartbeats 4000000
set_option maxRecDepth 8000
namespace Go.Proofs.YtebbekdebanabaaDoor
open Go Go.RowKit Go.PP Go.Dm Go.Bn
theorem blen_mono {m n : Nat} (h : m ≤ n) : blen m ≤ blen n := blen_le (Nat.lt_of_le_of_lt h (blen_up n))
theorem pow_BW (L : Nat) : BW ^ L = 2 ^ (32 * L) := by
  rw [Nat.pow_mul]
/-- Powers whose answer is plain. -/
theorem pow_neg (a : Nat) (z : Int) (hz : z < 0) : DFun Tryd.prog 43 [natD a, .flat (.int .i64 z)] (.tup [natD 0, .flat (.int .i64 2)]) := by
  rw [nat0]
  refine DFun.enterA Tryd.func43 Tryd.ntmps43 ?_
  refine DW.walk ?_
  exact ⟨.inr rfl, ResOk.cellTmpA [] rfl rfl rfl ag25 sz25 rfl trivial (VwL.pers rfl) (Le.agg ⟨Le.nil _ _, trivial⟩) (Vw.pers rfl)⟩
theorem pow_0 (a : Nat) : DFun Tryd.prog 43 [natD a, .flat (.int .i64 0)] (.tup [natD 1, .flat (.int .i64 0)]) := by
  have h1 := fromU_d 1 (by decide)
  refine DFun.enterA Tryd.func43 Tryd.ntmps43 ?_
  refine DW.walk ?_
  exact ⟨.inr rfl, ResOk.cellTmpA [] rfl rfl rfl ag25 sz25 rfl trivial (VwL.pers rfl) (Le.refl _) (Vw.pers rfl)⟩
theorem pow_low (a n : Nat) (la : (dig BW a).length ≤ 100000) (hn : 0 < n) (hb : blen a < 2) : DFun Tryd.prog 43 [natD a, .flat (.int .i64 (n : Nat))] (.tup [natD a, .flat (.int .i64 0)]) := by
  have h1 := bitlen_d a la
  generalize blen a = c at *
  refine DFun.enterA Tryd.func43 Tryd.ntmps43 ?_
  refine DW.walk ?_
  exact ⟨.inr rfl, ResOk.cellTmpA [] rfl rfl rfl ag25 sz25 rfl trivial (VwL.pers rfl) (Le.refl _) (Vw.pers rfl)⟩
theorem pow_far (a n : Nat) (la : (dig BW a).length ≤ 100000) (hb : 2 ≤ blen a) (h : 65536 < n ∨ n ≤ 65536 ∧ 65536 ≤ (blen a - 1) * n) (hn63 : n < 9223372036854775808) : DFun Tryd.prog 43 [natD a, .flat (.int .i64 (n : Nat))] (.tup [natD 0, .flat (.int .i64 2)]) := by
  have h1 := bitlen_d a la
  have hbl0 : blen a ≤ 32 * (dig BW a).length := blen_le (by rw [← pow_BW]; exact dig_up hBW a)
  have hbl : blen a ≤ 3200000 := by omega
  rw [nat0]
  refine DFun.enterA Tryd.func43 Tryd.ntmps43 ?_
  rcases h with h | ⟨h, h'⟩
  · generalize blen a = c at *
    refine DW.walk ?_
    exact ⟨.inr rfl, ResOk.cellTmpA [] rfl rfl rfl ag25 sz25 rfl trivial (VwL.pers rfl) (Le.agg ⟨Le.nil _ _, trivial⟩) (Vw.pers rfl)⟩
  · have hn0 : 0 < n := Nat.pos_of_ne_zero fun e => by rw [e, Nat.mul_zero] at h'; omega
    have hub : (blen a - 1) * n ≤ 3200000 * 65536 := Nat.mul_le_mul (by omega) h
    have hm : ((blen a : Int) - 1) * (n : Int) = (((blen a - 1) * n : Nat) : Int) := by rw [Int.natCast_mul]; congr 1; omega
    have hw : IntKind.i64.wrap (((blen a : Int) - 1) * (n : Int)) = (((blen a - 1) * n : Nat) : Int) := by rw [hm]; exact w64 (by omega) (by omega)
    generalize (blen a - 1) * n = p at *
    generalize blen a = c at *
    refine DW.walk ?_
    exact ⟨.inr rfl, ResOk.cellTmpA [] rfl rfl rfl ag25 sz25 rfl trivial (VwL.pers rfl) (Le.agg ⟨Le.nil _ _, trivial⟩) (Vw.pers rfl)⟩
theorem half_pow (x k : Nat) : (x * x) ^ (k / 2) * x ^ (k % 2) = x ^ k := by
  rw [← Nat.pow_two, ← Nat.pow_mul, ← Nat.pow_add]
  congr 1
  omega
/-- The power, or word that it has too many bits. -/
theorem pow_main (a n : Nat) (hn : 0 < n) (hb : 2 ≤ blen a) (hn2 : n ≤ 65536) (h : (blen a - 1) * n < 65536) : DFun Tryd.prog 43 [natD a, .flat (.int .i64 (n : Nat))] (if 65536 < blen (a ^ n) then .tup [natD 0, .flat (.int .i64 2)] else .tup [natD (a ^ n), .flat (.int .i64 0)]) := by
  have ha2 : 2 ≤ a := by
    refine Classical.byContradiction fun hc => ?_
    have := blen_le (n := a) (k := 1) (by omega)
    omega
  obtain ⟨K, hK⟩ : ∃ K : Nat, K = 4096 := ⟨_, rfl⟩
  have hP : a ^ n < 2 ^ (32 * K) := by
    have h1 : a ^ n < (2 ^ blen a) ^ n := Nat.pow_lt_pow_left (blen_up a) (by omega)
    rw [← Nat.pow_mul] at h1
    refine Nat.lt_of_lt_of_le h1 (Nat.pow_le_pow_right (by decide) ?_)
    have h2 : blen a * n = (blen a - 1) * n + n := by
      obtain ⟨c, hc⟩ : ∃ c, blen a = c + 1 := ⟨blen a - 1, by omega⟩
      rw [hc, Nat.add_sub_cancel, Nat.add_mul, Nat.one_mul]
    omega
  have hle : ∀ y, y ≤ a ^ n → (dig BW y).length ≤ K := fun y hy => len_bits (Nat.lt_of_le_of_lt hy hP)
  have hone : a ≤ a ^ n := Nat.le_self_pow (by omega) a
  have la := hle a hone
  have h1 := bitlen_d a (by omega)
  have hub : (blen a - 1) * n ≤ 65536 := by omega
  have hm : ((blen a : Int) - 1) * (n : Int) = (((blen a - 1) * n : Nat) : Int) := by rw [Int.natCast_mul]; congr 1; omega
  have hw : IntKind.i64.wrap (((blen a : Int) - 1) * (n : Int)) = (((blen a - 1) * n : Nat) : Int) := by rw [hm]; exact w64 (by omega) (by omega)
  have hcn : ((blen a : Int)) ≤ 65537 := by
    have : (blen a - 1) * 1 ≤ (blen a - 1) * n := Nat.mul_le_mul_left _ hn
    omega
  generalize (blen a - 1) * n = p at *
  have hf1 := fromU_d 1 (by decide)
  have hBL := bitlen_d (a ^ n) (Nat.le_trans (hle _ (Nat.le_refl _)) (by omega))
  generalize blen a = c at *
  refine DFun.enterA Tryd.func43 Tryd.ntmps43 ?_
  refine DW.walk ?_
  refine DW.loopA (fun s : Nat × Nat × Nat => ⟨[(1, .flat (.int .i64 (s.1 : Nat))), (4, .ref 4 0), (6, .ref 6 0), (7, .ref 7 0)], [(4, some (.box [.flat (.slice none 0 0)])), (6, some (.box [wsD (dig BW s.2.1)])), (7, some (.box [wsD (dig BW s.2.2)]))]⟩) (fun s => s.1 ≤ n ∧ s.2.1 * s.2.2 ^ s.1 = a ^ n ∧ s.2.1 ≤ a ^ n ∧ s.2.2 ≤ a ^ n ∧ 2 ≤ s.2.2) (fun s => s.1) (n, 1, a) ?_ ⟨Nat.le_refl _, Nat.one_mul _, Nat.pow_pos (by omega), hone, ha2⟩
  rintro ⟨k, out, x⟩ ⟨c1, c2, c3, c4, c5⟩
  have c1 : k ≤ n := c1
  have c2 : out * x ^ k = a ^ n := c2
  have c3 : out ≤ a ^ n := c3
  have c4 : x ≤ a ^ n := c4
  have c5 : 2 ≤ x := c5
  dsimp only
  have lo := hle out c3
  have lx := hle x c4
  by_cases hk : k = 0
  · subst hk
    rw [Nat.pow_zero, Nat.mul_one] at c2
    subst c2
    by_cases hbig : 65536 < blen (a ^ n)
    · rw [if_pos hbig, nat0]
      generalize blen (a ^ n) = B at *
      refine DW.walk ?_
      exact ⟨.inr rfl, ResOk.cellTmpA [] rfl rfl rfl ag25 sz25 rfl trivial (VwL.pers rfl) (Le.agg ⟨Le.nil _ _, trivial⟩) (Vw.pers rfl)⟩
    · rw [if_neg hbig]
      generalize blen (a ^ n) = B at *
      refine DW.walk ?_
      exact ⟨.inr rfl, ResOk.cellTmpA [] rfl rfl rfl ag25 sz25 rfl trivial (VwL.pers rfl) (Le.refl _) (Vw.pers rfl)⟩
  · have hox := mul_n out x (by omega) (by omega)
    have hxx := mul_n x x (by omega) (by omega)
    have hand : IntKind.i64.wrap ((BitVec.ofInt IntKind.i64.bits (k : Int) &&& BitVec.ofInt IntKind.i64.bits 1).toNat) = ((k % 2 : Nat) : Int) := by
      have h1 : (BitVec.ofInt IntKind.i64.bits (k : Int) &&& BitVec.ofInt IntKind.i64.bits 1).toNat = k % 2 := by
        rw [BitVec.toNat_and, ofInt_small (show k < 2 ^ IntKind.i64.bits from Nat.lt_of_le_of_lt (show k ≤ 65536 by omega) (by decide))]
        exact Nat.and_one_is_mod k
      rw [h1]
      exact w64 (by omega) (by omega)
    have hpe := half_pow x k
    have hpx : x ^ (k % 2) ≤ x ^ k := Nat.pow_le_pow_right (by omega) (Nat.mod_le _ _)
    have hout : ∀ y, y ∣ a ^ n → y ≤ a ^ n := fun y hy => Nat.le_of_dvd (Nat.pow_pos (by omega)) hy
    have hxk : 1 < k → x * x ≤ a ^ n := fun h1 => by
      refine hout _ ?_
      rw [← c2]
      refine Nat.dvd_mul_left_of_dvd ?_ _
      rw [← Nat.pow_two]
      exact Nat.pow_dvd_pow x h1
    have e2 : k / 2 ^ 1 = k / 2 := rfl
    have d1 : k / 2 < k := by omega
    have d2 : k / 2 ≤ n := by omega
    by_cases hodd : k % 2 = 1
    · have hoxl : out * x ≤ a ^ n := by
        refine hout _ ?_
        rw [← c2]
        refine Nat.mul_dvd_mul_left _ ?_
        have := Nat.pow_dvd_pow x (show 1 ≤ k by omega)
        rwa [Nat.pow_one] at this
      rw [hodd] at hand
      by_cases hk1 : 1 < k
      · refine DW.walk ?_
        rw [e2]
        refine ⟨(k / 2, out * x, x * x), ⟨d2, ?_, hoxl, hxk hk1, Nat.le_trans c5 (Nat.le_mul_self x)⟩, d1, Sub.auto⟩
        show out * x * (x * x) ^ (k / 2) = a ^ n
        rw [← c2, ← hpe, hodd, Nat.pow_one, Nat.mul_assoc, Nat.mul_comm x]
      · obtain rfl : k = 1 := by omega
        refine DW.walk ?_
        refine ⟨(0, out * x, x), ⟨Nat.zero_le _, ?_, hoxl, c4, c5⟩, by show 0 < 1; decide, Sub.auto⟩
        show out * x * x ^ 0 = a ^ n
        rw [Nat.pow_zero, Nat.mul_one, ← c2, Nat.pow_one]
    · have hev : k % 2 = 0 := by omega
      have hk1 : 1 < k := by omega
      rw [hev] at hand
      refine DW.walk ?_
      rw [e2]
      refine ⟨(k / 2, out, x * x), ⟨d2, ?_, c3, hxk hk1, Nat.le_trans c5 (Nat.le_mul_self x)⟩, d1, Sub.auto⟩
      show out * (x * x) ^ (k / 2) = a ^ n
      rw [← c2, ← hpe, hev, Nat.pow_zero, Nat.mul_one]
end Go.Proofs.YtebbekdebanabaaDoor
