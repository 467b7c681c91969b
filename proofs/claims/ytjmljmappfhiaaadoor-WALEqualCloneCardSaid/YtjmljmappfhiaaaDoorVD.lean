/- Contracts over data: digits, encodings. No condition. -/
import Derived.Test.YtjmljmappfhiaaaDoorVC
set_option linter.unusedSimpArgs false
set_option linter.unusedVariables false
set_option maxHeartbeats 1000000
set_option maxRecDepth 8000
namespace Go.Proofs.YtjmljmappfhiaaaDoor
open Go Go.RowKit Go.PP Go.Dm

theorem signs_at {x : Nat} (h : x < 16) : List.drop x (48 :: List.take x [49, 50, 51, 52, 53, 54, 55, 56, 57, 97, 98, 99, 100, 101, 102]) = [signs.getD x 0] := by
  match x, h with
  | 0, _ | 1, _ | 2, _ | 3, _ | 4, _ | 5, _ | 6, _ | 7, _ | 8, _ | 9, _ | 10, _ | 11, _ | 12, _ | 13, _ | 14, _ | 15, _ => rfl
  | x + 16, h => omega
theorem digits_d (b : Nat) (hb : 2 ≤ b) (hb2 : b ≤ 16) : ∀ (m n : Nat), n < b ^ m → m ≤ 40 → n < 4294967296 → DFun Tryd.prog 39 [.flat (.int .u64 n), .flat (.int .u64 b)] (strD (digs b n))
  | m, n, hm, hm2, hn => by
    have hlt : n % b < 16 := by have := Nat.mod_lt n (show 0 < b by omega); omega
    have hb0 : (b : Int) ≠ 0 := by omega
    have hsl := signs_at hlt
    have hle : n / b ≤ n := Nat.div_le_self n b
    generalize hq : n % b = q at hlt hsl
    rw [digs_eq b hb, hq]
    refine DFun.enterA Tryd.func39 Tryd.ntmps39 ?_
    by_cases hnb : n < b
    · rw [if_pos hnb, List.nil_append]
      refine DW.walkTo 2 ?_
      rw [hq]
      refine DW.walk ?_
      rw [hsl]
      exact ⟨.inr rfl, ResOk.one [] rfl rfl trivial (Vw.pers rfl)⟩
    · rw [if_neg hnb]
      match m, hm with
      | 0, hm => exact absurd hm (by simp; omega)
      | m + 1, hm =>
        have hrec := digits_d b hb hb2 m (n / b) (Nat.div_lt_of_lt_mul (by rw [Nat.pow_succ, Nat.mul_comm] at hm; exact hm)) (by omega) (by omega)
        have hl := digs_len b hb m (n / b) (Nat.div_lt_of_lt_mul (by rw [Nat.pow_succ, Nat.mul_comm] at hm; exact hm))
        refine DW.walk ?_
        rw [hq, hsl]
        exact ⟨.inr rfl, ResOk.one [] rfl rfl trivial (Vw.pers rfl)⟩
termination_by m => m
theorem digs_len1 (b : Nat) (hb : 2 ≤ b) : ∀ (m n : Nat), n < b ^ (m + 1) → (digs b n).length ≤ m + 1
  | 0, n, h => by
    rw [digs_eq b hb, if_pos (by simpa using h)]; simp
  | m + 1, n, h => by
    rw [digs_eq b hb]
    by_cases hn : n < b
    · rw [if_pos hn]; simp
    · rw [if_neg hn]
      have := digs_len1 b hb m (n / b) (Nat.div_lt_of_lt_mul (by rw [Nat.pow_succ, Nat.mul_comm] at h; exact h))
      simp; omega
/-- Eight digits of base 16. -/
def hex8 (n : Nat) : Bs := List.replicate (8 - (digs 16 n).length) 48 ++ digs 16 n
def encE (e : Bs × Bs) : Bs := e.1 ++ [32] ++ digs 10 e.2.length ++ [32] ++ hex8 (sumB (e.1 ++ [10] ++ e.2)).toNat ++ [10] ++ e.2 ++ [10]
theorem digs_pos (b n : Nat) : 1 ≤ (digs b n).length := by
  unfold digs digsR
  simp
theorem bytesN_d (e : Bs × Bs) (h1 : e.1.length ≤ 32) (h2 : e.2.length ≤ 65536) : DFun Tryd.prog 15 [entD e] (bytesD (encE e)) := by
  obtain ⟨a, b⟩ := e
  simp only at h1 h2
  have hs := sum_d (a ++ [10] ++ b) (by simp; omega)
  have hlt := (sumB (a ++ [10] ++ b)).isLt
  unfold encE
  simp only
  generalize hS : (sumB (a ++ [10] ++ b)).toNat = S at hs hlt ⊢
  have hd := digits_d 16 (by omega) (by omega) 8 S (by omega) (by omega) (by omega)
  have hd2 := digits_d 10 (by omega) (by omega) 5 b.length (by omega) (by omega) (by omega)
  have hl : (digs 16 S).length ≤ 8 := digs_len1 16 (by omega) 7 S (by omega)
  have hl10 : (digs 10 b.length).length ≤ 6 := digs_len 10 (by omega) 5 b.length (by omega)
  unfold hex8
  generalize hg : digs 16 S = h at hd hl ⊢
  generalize hg2 : digs 10 b.length = d at hd2 hl10 ⊢
  refine DFun.enterA Tryd.func15 Tryd.ntmps15 ?_
  refine DW.walk ?_
  refine DW.loopA (fun j : Nat => ⟨[(1, .ref 1 0), (3, strD (List.replicate j 48 ++ h))], [(1, some (.box [strD a, strD b]))]⟩) (fun j => j + h.length ≤ 8) (fun j => 8 - j) 0 ?_ (by omega)
  intro j hj
  have hjl : (List.replicate j (48 : UInt8) ++ h).length = j + h.length := by simp
  rcases Nat.lt_or_ge (j + h.length) 8 with hlt | hge
  · refine DW.walk ?_
    exact ⟨j + 1, by omega, by omega, Sub.auto⟩
  · have : 8 - h.length = j := by omega
    rw [this]
    generalize List.replicate j (48 : UInt8) ++ h = z at hjl ⊢
    refine DW.walk ?_
    exact ⟨.inr rfl, ResOk.one [(36, some (.row 5 1 _ _))] rfl rfl ⟨rfl, trivial⟩ (Vw.own (List.mem_cons_self ..) (VwL.pers (bD_pers _)))⟩
end Go.Proofs.YtjmljmappfhiaaaDoor
