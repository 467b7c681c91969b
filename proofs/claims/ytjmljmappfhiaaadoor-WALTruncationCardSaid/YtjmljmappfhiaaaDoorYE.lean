/- Contracts over data: digits, encodings. No condition. -/
import Derived.Test.YtjmljmappfhiaaaDoorYC

set_option linter.unusedSimpArgs false
set_option linter.unusedVariables false
set_option maxHeartbeats 1000000
set_option maxRecDepth 8000
namespace Go.Proofs.YtjmljmappfhiaaaDoor
open Go Go.RowKit Go.PP Go.Dm

theorem signs_at {x : Nat} (h : x < 16) : List.drop x (48 :: List.take x [49, 50, 51, 52, 53, 54, 55, 56, 57, 97, 98, 99, 100, 101, 102]) = [signs.getD x 0] := by
  match x, h with
  | 0, _ | 1, _ | 2, _ | 3, _ | 4, _ | 5, _ | 6, _ | 7, _ | 8, _ | 9, _ | 10, _ | 11, _ | 12, _ | 13, _ | 14, _ | 15, _ => rfl
  | x + 16, h => omega
theorem digits_d (b : Nat) (hb : 2 ≤ b) (hb2 : b ≤ 16) : ∀ (m n : Nat), n < b ^ m → m ≤ 40 → n < 4294967296 → DFun Tryd.prog 39 [.flat (.int .u64 n), .flat (.int .u64 b)] (strD (digs b n))
  | m, n, hm, hm2, hn => by
    have hlt : n % b < 16 := by have := Nat.mod_lt n (show 0 < b by omega); omega
    have hb0 : (b : Int) ≠ 0 := by omega
    have hsl := signs_at hlt
    have hle : n / b ≤ n := Nat.div_le_self n b
    generalize hq : n % b = q at hlt hsl
    rw [digs_eq b hb, hq]
    refine DFun.enterA Tryd.func39 Tryd.ntmps39 ?_
    by_cases hnb : n < b
    · rw [if_pos hnb, List.nil_append]
      refine DW.walkTo 2 ?_
      rw [hq]
      refine DW.walk ?_
      rw [hsl]
      exact ⟨.inr rfl, ResOk.one [] rfl rfl trivial (Vw.pers rfl)⟩
    · rw [if_neg hnb]
      match m, hm with
      | 0, hm => exact absurd hm (by simp; omega)
      | m + 1, hm =>
        have hrec := digits_d b hb hb2 m (n / b) (Nat.div_lt_of_lt_mul (by rw [Nat.pow_succ, Nat.mul_comm] at hm; exact hm)) (by omega) (by omega)
        have hl := digs_len b hb m (n / b) (Nat.div_lt_of_lt_mul (by rw [Nat.pow_succ, Nat.mul_comm] at hm; exact hm))
        refine DW.walk ?_
        rw [hq, hsl]
        exact ⟨.inr rfl, ResOk.one [] rfl rfl trivial (Vw.pers rfl)⟩
termination_by m => m
theorem digs_len1 (b : Nat) (hb : 2 ≤ b) : ∀ (m n : Nat), n < b ^ (m + 1) → (digs b n).length ≤ m + 1
  | 0, n, h => by
    rw [digs_eq b hb, if_pos (by simpa using h)]; simp
  | m + 1, n, h => by
    rw [digs_eq b hb]
    by_cases hn : n < b
    · rw [if_pos hn]; simp
    · rw [if_neg hn]
      have := digs_len1 b hb m (n / b) (Nat.div_lt_of_lt_mul (by rw [Nat.pow_succ, Nat.mul_comm] at h; exact h))
      simp; omega
/-- Eight digits of base 16. -/
def hex8 (n : Nat) : Bs := List.replicate (8 - (digs 16 n).length) 48 ++ digs 16 n
def encE (e : Bs × Bs) : Bs := e.1 ++ [32] ++ digs 10 e.2.length ++ [32] ++ hex8 (sumB (e.1 ++ [10] ++ e.2)).toNat ++ [10] ++ e.2 ++ [10]
theorem digs_pos (b n : Nat) : 1 ≤ (digs b n).length := by
  unfold digs digsR
  simp
theorem bytesN_d (e : Bs × Bs) (h1 : e.1.length ≤ 32) (h2 : e.2.length ≤ 65536) : DFun Tryd.prog 15 [entD e] (bytesD (encE e)) := by
  obtain ⟨a, b⟩ := e
  simp only at h1 h2
  have hs := sum_d (a ++ [10] ++ b) (by simp; omega)
  have hlt := (sumB (a ++ [10] ++ b)).isLt
  unfold encE
  simp only
  generalize hS : (sumB (a ++ [10] ++ b)).toNat = S at hs hlt ⊢
  have hd := digits_d 16 (by omega) (by omega) 8 S (by omega) (by omega) (by omega)
  have hd2 := digits_d 10 (by omega) (by omega) 5 b.length (by omega) (by omega) (by omega)
  have hl : (digs 16 S).length ≤ 8 := digs_len1 16 (by omega) 7 S (by omega)
  have hl10 : (digs 10 b.length).length ≤ 6 := digs_len 10 (by omega) 5 b.length (by omega)
  unfold hex8
  generalize hg : digs 16 S = h at hd hl ⊢
  generalize hg2 : digs 10 b.length = d at hd2 hl10 ⊢
  refine DFun.enterA Tryd.func15 Tryd.ntmps15 ?_
  refine DW.walk ?_
  refine DW.loopA (fun j : Nat => ⟨[(1, .ref 1 0), (3, strD (List.replicate j 48 ++ h))], [(1, some (.box [strD a, strD b]))]⟩) (fun j => j + h.length ≤ 8) (fun j => 8 - j) 0 ?_ (by omega)
  intro j hj
  have hjl : (List.replicate j (48 : UInt8) ++ h).length = j + h.length := by simp
  rcases Nat.lt_or_ge (j + h.length) 8 with hlt | hge
  · refine DW.walk ?_
    exact ⟨j + 1, by omega, by omega, Sub.auto⟩
  · have : 8 - h.length = j := by omega
    rw [this]
    generalize List.replicate j (48 : UInt8) ++ h = z at hjl ⊢
    refine DW.walk ?_
    exact ⟨.inr rfl, ResOk.one [(36, some (.row 5 1 _ _))] rfl rfl ⟨rfl, trivial⟩ (Vw.own (List.mem_cons_self ..) (VwL.pers (bD_pers _)))⟩
end Go.Proofs.YtjmljmappfhiaaaDoor

set_option linter.unusedSimpArgs false
set_option linter.unusedVariables false
namespace Go.Proofs.YtjmljmappfhiaaaDoor
open Go Go.RowKit Go.PP Go.Dm

theorem sign_dec {x : Nat} (h : x < 10) : UInt8.ofNat (48 + x) = signs.getD x 0 := by
  match x, h with
  | 0, _ | 1, _ | 2, _ | 3, _ | 4, _ | 5, _ | 6, _ | 7, _ | 8, _ | 9, _ => rfl
  | x + 10, h => omega
theorem dec_digs (u : Nat) : Lib.decDigits u = digs 10 u := by
  induction u using Nat.strongRecOn with
  | _ u ih =>
    rw [Lib.decDigits, digs_eq 10 (by omega)]
    by_cases h : u < 10
    · rw [dif_pos h, if_pos h, sign_dec h, Nat.mod_eq_of_lt h]; rfl
    · rw [dif_neg h, if_neg h, ih (u / 10) (by omega), sign_dec (Nat.mod_lt _ (by omega))]
theorem hex_pad : ∀ (m S : Nat), S < 16 ^ (m + 1) → List.replicate (m + 1 - (digs 16 S).length) 48 ++ digs 16 S = (List.range (m + 1)).map fun i => signs.getD (S / 16 ^ (m - i) % 16) 0
  | 0, S, h => by
    have h16 : S < 16 := by simpa using h
    rw [digs_eq 16 (by omega), if_pos h16]
    simp
  | m + 1, S, h => by
    have ih := hex_pad m (S / 16) (Nat.div_lt_of_lt_mul (by rw [Nat.pow_succ, Nat.mul_comm] at h; exact h))
    rw [List.range_succ, List.map_append]
    have hr : (List.range (m + 1)).map (fun i => signs.getD (S / 16 ^ (m + 1 - i) % 16) 0) = (List.range (m + 1)).map fun i => signs.getD (S / 16 / 16 ^ (m - i) % 16) 0 := by
      refine List.map_congr_left fun i hi => ?_
      have hi := List.mem_range.1 hi
      rw [Nat.div_div_eq_div_mul, show m + 1 - i = (m - i) + 1 by omega, Nat.pow_succ, Nat.mul_comm (16 ^ (m - i)) 16]
    rw [hr, ← ih]
    have hlast : (List.map (fun i => signs.getD (S / 16 ^ (m + 1 - i) % 16) 0) [m + 1]) = [signs.getD (S % 16) 0] := by simp
    rw [hlast, digs_eq 16 (by omega) S]
    by_cases h16 : S < 16
    · rw [if_pos h16, Nat.div_eq_of_lt h16]
      have h0 : digs 16 0 = [48] := by decide
      rw [h0]
      simp only [List.nil_append, List.length_cons, List.length_nil]
      rw [show m + 1 + 1 - (0 + 1) = (m + 1 - (0 + 1)) + 1 by omega, List.replicate_succ']
    · rw [if_neg h16]
      simp only [List.length_append, List.length_cons, List.length_nil]
      rw [List.append_assoc, show m + 1 + 1 - ((digs 16 (S / 16)).length + (0 + 1)) = m + 1 - (digs 16 (S / 16)).length by omega]
/-- The first j of eight digits of base 16, by shifts. -/
def nibs (S j : Nat) : Bs := (List.range j).map fun i => signs.getD (S / 2 ^ (4 * (7 - i)) % 16) 0
theorem nibs_succ (S j : Nat) : nibs S (j + 1) = nibs S j ++ [signs.getD (S / 2 ^ (4 * (7 - j)) % 16) 0] := by
  unfold nibs; rw [List.range_succ, List.map_append]; rfl
theorem nibs_len (S j : Nat) : (nibs S j).length = j := by simp [nibs]
theorem nibs_hex (S : Nat) (h : S < 2 ^ 32) : nibs S 8 = hex8 S := by
  unfold nibs hex8
  rw [hex_pad 7 S (by omega)]
  refine List.map_congr_left fun i hi => ?_
  rw [Nat.pow_mul]
end Go.Proofs.YtjmljmappfhiaaaDoor

set_option linter.unusedSimpArgs false
set_option linter.unusedVariables false
set_option maxHeartbeats 1000000
set_option maxRecDepth 8000
namespace Go.Proofs.YtjmljmappfhiaaaDoor
open Go Go.RowKit Go.PP Go.Dm

def encW (e : Bs × Bs) : Bs := e.1 ++ [32] ++ Lib.decDigits e.2.length ++ [32] ++ nibs (sumB (e.1 ++ [10] ++ e.2)).toNat 8 ++ [10] ++ e.2 ++ [10]
theorem encW_eq (e : Bs × Bs) : encW e = encE e := by
  unfold encW encE
  rw [dec_digs, nibs_hex _ (sumB (e.1 ++ [10] ++ e.2)).isLt]
theorem bytes_d (e : Bs × Bs) (h1 : e.1.length ≤ 32) (h2 : e.2.length ≤ 65536) : DFun Tryd.prog 37 [entD e] (bytesD (encW e)) := by
  obtain ⟨a, b⟩ := e
  simp only at h1 h2
  have hs := checksum_d (a ++ [10] ++ b) (by simp; omega)
  have hlt := (sumB (a ++ [10] ++ b)).isLt
  unfold encW
  simp only
  generalize hS : (sumB (a ++ [10] ++ b)).toNat = S at hs hlt ⊢
  have hdl : (Lib.decDigits b.length).length ≤ 6 := by
    rw [dec_digs]
    exact Nat.le_trans (digs_len1 10 (by omega) 5 b.length (by omega)) (by omega)
  refine DFun.enterA Tryd.func37 Tryd.ntmps37 ?_
  have hrow0 : bD a ++ [D.flat (.int .u8 32)] ++ bD (Lib.decDigits b.length) ++ [D.flat (.int .u8 32)] = bD (a ++ [32] ++ Lib.decDigits b.length ++ [32] ++ nibs S 0) := by simp [bD, nibs]
  refine DW.walkTo 5 ?_
  refine DW.loopA (fun j : Nat => ⟨[(1, .ref 1 0), (3, .own 8 (a.length + 1 + (Lib.decDigits b.length).length + 1 + j)), (4, .flat (.int .u32 S)), (5, .flat (.int .i64 (7 - (j : Int))))], [(1, some (.box [strD a, strD b])), (8, some (.row 5 1 (a.length + 1 + (Lib.decDigits b.length).length + 1 + j) (bD (a ++ [32] ++ Lib.decDigits b.length ++ [32] ++ nibs S j))))]⟩) (fun j => j ≤ 8) (fun j => 8 - j) 0 ?_ (by omega)
  intro j hj
  rcases Nat.lt_or_ge j 8 with hlt | hge
  · have hc : signs[S / 2 ^ (4 * (7 - j)) % 16]? = some (signs.getD (S / 2 ^ (4 * (7 - j)) % 16) 0) := by
      have : S / 2 ^ (4 * (7 - j)) % 16 < signs.length := Nat.mod_lt _ (by decide)
      rw [List.getElem?_eq_getElem this]
      simp [List.getD, this]
    have hrow : bD (a ++ [32] ++ Lib.decDigits b.length ++ [32] ++ nibs S j) ++ [D.flat (.int .u8 (signs.getD (S / 2 ^ (4 * (7 - j)) % 16) 0).toNat)] = bD (a ++ [32] ++ Lib.decDigits b.length ++ [32] ++ nibs S (j + 1)) := by
      rw [nibs_succ]; simp [bD]
    unfold signs at hc
    refine DW.walk ?_
    exact ⟨j + 1, by omega, by omega, Sub.auto⟩
  · have : j = 8 := by omega
    subst this
    have hend : bD (a ++ [32] ++ Lib.decDigits b.length ++ [32] ++ nibs S 8) ++ [D.flat (.int .u8 10)] ++ bD b ++ [D.flat (.int .u8 10)] = bD (a ++ [32] ++ Lib.decDigits b.length ++ [32] ++ nibs S 8 ++ [10] ++ b ++ [10]) := by simp [bD]
    have hln := nibs_len S 8
    refine DW.walk ?_
    rw [hend]
    refine ⟨.inr rfl, ResOk.one [(8, some (.row 5 1 _ _))] rfl rfl ⟨rfl, trivial⟩ (Vw.le (Vw.own (.head _) (VwL.pers (bD_pers _))) (Le.of_eq ?_))⟩
    congr 1
    simp only [List.length_append, List.length_cons, List.length_nil, hln]
end Go.Proofs.YtjmljmappfhiaaaDoor
