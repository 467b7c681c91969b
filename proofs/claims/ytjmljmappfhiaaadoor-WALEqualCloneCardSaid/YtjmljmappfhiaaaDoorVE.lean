/- Contracts over data: the encoding of an entry. No condition. -/
import Derived.Test.YtjmljmappfhiaaaDoorVDp
set_option linter.unusedSimpArgs false
set_option linter.unusedVariables false
set_option maxHeartbeats 1000000
set_option maxRecDepth 8000
namespace Go.Proofs.YtjmljmappfhiaaaDoor
open Go Go.RowKit Go.PP Go.Dm

def encW (e : Bs × Bs) : Bs := e.1 ++ [32] ++ Lib.decDigits e.2.length ++ [32] ++ nibs (sumB (e.1 ++ [10] ++ e.2)).toNat 8 ++ [10] ++ e.2 ++ [10]
theorem encW_eq (e : Bs × Bs) : encW e = encE e := by
  unfold encW encE
  rw [dec_digs, nibs_hex _ (sumB (e.1 ++ [10] ++ e.2)).isLt]
theorem bytes_d (e : Bs × Bs) (h1 : e.1.length ≤ 32) (h2 : e.2.length ≤ 65536) : DFun Tryd.prog 37 [entD e] (bytesD (encW e)) := by
  obtain ⟨a, b⟩ := e
  simp only at h1 h2
  have hs := checksum_d (a ++ [10] ++ b) (by simp; omega)
  have hlt := (sumB (a ++ [10] ++ b)).isLt
  unfold encW
  simp only
  generalize hS : (sumB (a ++ [10] ++ b)).toNat = S at hs hlt ⊢
  have hdl : (Lib.decDigits b.length).length ≤ 6 := by
    rw [dec_digs]
    exact Nat.le_trans (digs_len1 10 (by omega) 5 b.length (by omega)) (by omega)
  refine DFun.enterA Tryd.func37 Tryd.ntmps37 ?_
  have hrow0 : bD a ++ [D.flat (.int .u8 32)] ++ bD (Lib.decDigits b.length) ++ [D.flat (.int .u8 32)] = bD (a ++ [32] ++ Lib.decDigits b.length ++ [32] ++ nibs S 0) := by simp [bD, nibs]
  refine DW.walkTo 5 ?_
  refine DW.loopA (fun j : Nat => ⟨[(1, .ref 1 0), (3, .own 8 (a.length + 1 + (Lib.decDigits b.length).length + 1 + j)), (4, .flat (.int .u32 S)), (5, .flat (.int .i64 (7 - (j : Int))))], [(1, some (.box [strD a, strD b])), (8, some (.row 5 1 (a.length + 1 + (Lib.decDigits b.length).length + 1 + j) (bD (a ++ [32] ++ Lib.decDigits b.length ++ [32] ++ nibs S j))))]⟩) (fun j => j ≤ 8) (fun j => 8 - j) 0 ?_ (by omega)
  intro j hj
  rcases Nat.lt_or_ge j 8 with hlt | hge
  · have hc : signs[S / 2 ^ (4 * (7 - j)) % 16]? = some (signs.getD (S / 2 ^ (4 * (7 - j)) % 16) 0) := by
      have : S / 2 ^ (4 * (7 - j)) % 16 < signs.length := Nat.mod_lt _ (by decide)
      rw [List.getElem?_eq_getElem this]
      simp [List.getD, this]
    have hrow : bD (a ++ [32] ++ Lib.decDigits b.length ++ [32] ++ nibs S j) ++ [D.flat (.int .u8 (signs.getD (S / 2 ^ (4 * (7 - j)) % 16) 0).toNat)] = bD (a ++ [32] ++ Lib.decDigits b.length ++ [32] ++ nibs S (j + 1)) := by
      rw [nibs_succ]; simp [bD]
    unfold signs at hc
    refine DW.walk ?_
    exact ⟨j + 1, by omega, by omega, Sub.auto⟩
  · have : j = 8 := by omega
    subst this
    have hend : bD (a ++ [32] ++ Lib.decDigits b.length ++ [32] ++ nibs S 8) ++ [D.flat (.int .u8 10)] ++ bD b ++ [D.flat (.int .u8 10)] = bD (a ++ [32] ++ Lib.decDigits b.length ++ [32] ++ nibs S 8 ++ [10] ++ b ++ [10]) := by simp [bD]
    have hln := nibs_len S 8
    refine DW.walk ?_
    rw [hend]
    refine ⟨.inr rfl, ResOk.one [(8, some (.row 5 1 _ _))] rfl rfl ⟨rfl, trivial⟩ (Vw.le (Vw.own (.head _) (VwL.pers (bD_pers _))) (Le.of_eq ?_))⟩
    congr 1
    simp only [List.length_append, List.length_cons, List.length_nil, hln]
end Go.Proofs.YtjmljmappfhiaaaDoor
