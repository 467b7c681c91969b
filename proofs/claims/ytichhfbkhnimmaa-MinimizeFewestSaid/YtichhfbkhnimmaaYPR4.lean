/- The reference: the product, whole. No condition. -/
import Derived.Test.YtichhfbkhnimmaaYPR3

set_option linter.unusedSimpArgs false
set_option linter.unusedVariables false
set_option maxHeartbeats 4000000
set_option maxRecDepth 8000
namespace Go.Proofs.Ytichhfbkhnimmaa
open Go Go.RowKit Go.PP Go.Dm Go.Rt Go.Mn
theorem pairB_d (A B : Au) (hA : AuOk A) (hB : AuOk B) (hkA : chk A = 0) (hkB : chk B = 0) (hr : A.ranks = B.ranks) (hnm : A.final.length * B.final.length ≤ 512) :
    DFun Try.prog 64 [auD A, auD B, .agg [.flat (.bool false), .flat (.bool true), .flat (.bool true), .flat (.bool false)]] (.tup [auD (prodA A B [false, true, true, false]), .flat (.int .i64 0)]) := by
  have cA := rcheck_d A (few_of hA)
  have cB := rcheck_d B (few_of hB)
  rw [hkA] at cA
  rw [hkB] at cB
  have heq := eq62_d A.ranks B.ranks (Nat.le_trans hA.alpha.hi (by decide)) (Nat.le_trans hB.alpha.hi (by decide))
  rw [decide_eq_true hr] at heq
  have hsy := fun (cc : Code) (h : selC [1, 1, 1, 1, 1, 1, 1, 1, 0, 1, 2, 2] code64 = some cc) (LF : List D) q6 s hs => psym_d h A B hA hB hr hnm LF q6 s hs
  have hPF : ∀ i k, k < B.final.length → prodF A B [false, true, true, false] (i * B.final.length + k) = xor (A.final.getD i false) (B.final.getD k false) := fun i k h => prodF_at A B h
  have hfA := fun i (h : i < A.final.length) => fin_part A.final h
  have hfB := fun i (h : i < B.final.length) => fin_part B.final h
  have hn0 := hA.lo
  have hm0 := hB.lo
  have hn := hA.hi
  have hm := hB.hi
  have hrl := hA.alpha.hi
  have hres : auD (prodA A B [false, true, true, false]) = .agg [.sl false 1 A.ranks.length (A.ranks.map fun x => D.flat (.int .i64 x)), .sl false 1 (A.final.length * B.final.length) (((List.range (A.final.length * B.final.length)).map (prodF A B [false, true, true, false])).map fun x => D.flat (.bool x)), .sl false 1 A.ranks.length (rowsL (tablesOf (A.final.length * B.final.length) (prodT A B) A.ranks))] := by
    rw [auD_eq]
    have h1 : (prodA A B [false, true, true, false]).final.length = A.final.length * B.final.length := made_final_len ..
    have h2 : (prodA A B [false, true, true, false]).to.length = A.ranks.length := made_to_len ..
    rw [h1, h2]
    rfl
  rw [hres]
  have hmw : IntKind.i64.wrap ((A.final.length : Int) * (B.final.length : Int)) = ((A.final.length * B.final.length : Nat) : Int) := by
    rw [← Int.natCast_mul, IntKind.wrap_i64]; omega
  have htl : (tablesOf (A.final.length * B.final.length) (prodT A B) A.ranks).length = A.ranks.length := by simp [tablesOf]
  have q1 := pers_i A.ranks
  have q2 := pers_b A.final
  have q3 := pers_r A.to
  have q4 := pers_b B.final
  have q5 := pers_r B.to
  have hbd : ∀ i, i < A.final.length → i * B.final.length + B.final.length ≤ A.final.length * B.final.length := fun i h => by rw [← Nat.succ_mul]; exact Nat.mul_le_mul h (Nat.le_refl _)
  have pTs := fun s => pers_r ((tablesOf (A.final.length * B.final.length) (prodT A B) A.ranks).take s)
  have hz : rowsL ((tablesOf (A.final.length * B.final.length) (prodT A B) A.ranks).take 0) = [] := rfl
  rw [auD_eq A] at cA ⊢
  rw [auD_eq B, ← hr] at cB ⊢
  rw [← hr] at heq
  clear hres hkA hkB hA hB hr
  generalize (A.ranks.map fun x => D.flat (.int .i64 x)) = LR at *
  generalize (A.final.map fun x => D.flat (.bool x)) = LBA at *
  generalize rowsL A.to = LTA at *
  generalize (B.final.map fun x => D.flat (.bool x)) = LBB at *
  generalize rowsL B.to = LTB at *
  generalize hTab : tablesOf (A.final.length * B.final.length) (prodT A B) A.ranks = TB at *
  generalize A.ranks.length = rl at *
  generalize A.final.length = n at *
  generalize B.final.length = m at *
  generalize A.to.length = ta at *
  generalize B.to.length = tb at *
  generalize prodF A B [false, true, true, false] = Ff at *
  generalize hnmE : n * m = nm at *
  clear hTab
  refine DFun.enterA Try.func64 Try.ntmps64 ?_
  refine DW.walkTo 13 ?_
  refine DW.adoptBox 12 1 103 4 1 rfl rfl rfl ?_
  refine DW.adoptBox 12 2 419430400005 22 1 rfl rfl rfl ?_
  refine DW.walk ?_
  refine DW.loopA (fun i : Nat => ⟨[(3, .ref 3 0), (4, .ref 4 0), (5, .ref 5 0), (6, .ref 6 0), (10, .flat (.int .i64 ((n : Nat) : Int))), (11, .flat (.int .i64 ((m : Nat) : Int))), (12, .ref 12 0), (13, .flat (.int .i64 ((i : Nat) : Int)))], [(3, some (.box [.sl false 1 rl LR, .sl false 1 n LBA, .sl false 1 ta LTA])), (4, some (.box [.sl false 1 rl LR, .sl false 1 m LBB, .sl false 1 tb LTB])), (5, some (.box [.flat (.bool false), .flat (.bool true), .flat (.bool true), .flat (.bool false)])), (6, some (.box [.flat (.slice none 0 0), .flat (.slice none 0 0), .flat (.slice none 0 0)])), (12, some (.box [.sl false 1 rl LR, .own 103 (i * m), .own 419430400005 0])), (103, some (.row 4 1 (i * m) (((List.range (i * m)).map Ff).map fun x => D.flat (.bool x)))), (419430400005, some (.row 22 1 0 []))]⟩) (fun i => i ≤ n) (fun i => n - i) 0 ?_ (Nat.zero_le _) (by rw [Nat.zero_mul]; exact Sub.auto)
  intro i hi
  rcases Nat.lt_or_ge i n with hlt | hge
  · have hb := hbd i hlt
    have ha1 := hfA i hlt
    have p00 := pers_b ((List.range (i * m)).map Ff)
    have hsn : ∀ k, k < m → (((List.range (i * m + k)).map Ff).map fun x => D.flat (.bool x)) ++ [.flat (.bool (xor (A.final.getD i false) (B.final.getD k false)))] = (((List.range (i * m + (k + 1))).map Ff).map fun x => D.flat (.bool x)) := fun k hk => by rw [← Nat.add_assoc, List.range_succ]; simp [hPF i k hk]
    have hpp := fun k => pers_b ((List.range (i * m + k)).map Ff)
    have hi1 : i * m + m = (i + 1) * m := by rw [Nat.succ_mul]
    have e0 : (((List.range (i * m + 0)).map Ff).map fun x => D.flat (.bool x)) = (((List.range (i * m)).map Ff).map fun x => D.flat (.bool x)) := rfl
    clear hsy hPF hfA hbd
    refine DW.walk ?_
    refine DW.loopA (fun k : Nat => ⟨[(3, .ref 3 0), (4, .ref 4 0), (5, .ref 5 0), (6, .ref 6 0), (10, .flat (.int .i64 ((n : Nat) : Int))), (11, .flat (.int .i64 ((m : Nat) : Int))), (12, .ref 12 0), (13, .flat (.int .i64 ((i : Nat) : Int))), (14, .flat (.int .i64 ((k : Nat) : Int)))], [(3, some (.box [.sl false 1 rl LR, .sl false 1 n LBA, .sl false 1 ta LTA])), (4, some (.box [.sl false 1 rl LR, .sl false 1 m LBB, .sl false 1 tb LTB])), (5, some (.box [.flat (.bool false), .flat (.bool true), .flat (.bool true), .flat (.bool false)])), (6, some (.box [.flat (.slice none 0 0), .flat (.slice none 0 0), .flat (.slice none 0 0)])), (12, some (.box [.sl false 1 rl LR, .own 103 (i * m + k), .own 419430400005 0])), (103, some (.row 4 1 (i * m + k) (((List.range (i * m + k)).map Ff).map fun x => D.flat (.bool x)))), (419430400005, some (.row 22 1 0 []))]⟩) (fun k => k ≤ m) (fun k => m - k) 0 ?_ (Nat.zero_le _) (by rw [e0, Nat.add_zero]; generalize (((List.range (i * m)).map Ff).map fun x => D.flat (.bool x)) = X0 at *; exact Sub.auto)
    intro k hk
    rcases Nat.lt_or_ge k m with hltk | hgek
    · refine (pfin_d (by rfl) n m rl ta tb i k (i * m) nm _ _ LR LBA LTA LBB LTB _ _ q1 q2 q3 q4 q5 hn hm hlt hltk hb hnm ha1 (hfB k hltk) (hpp k) (hpp (k + 1)) (hsn k hltk)).mono ?_
      rintro e s' ⟨rfl, hsub⟩
      exact ⟨k + 1, by omega, by omega, hsub⟩
    · obtain rfl : k = m := by omega
      rw [hi1]
      have p1 := pers_b ((List.range ((i + 1) * k)).map Ff)
      clear hpp hsn hfB e0
      rw [hi1] at hb
      generalize hX1 : (((List.range ((i + 1) * k)).map Ff).map fun x => D.flat (.bool x)) = X1 at *
      generalize hI : (i + 1) * k = iF at *
      refine DW.walk ?_
      exact ⟨i + 1, by omega, by omega, by rw [hI, hX1]; exact Sub.auto⟩
  · obtain rfl : n = i := by omega
    clear hPF hfA hfB hbd
    rw [hnmE]
    have pF := pers_b ((List.range nm).map Ff)
    generalize (((List.range (nm)).map Ff).map fun x => D.flat (.bool x)) = LF at *
    refine DW.walkTo 25 ?_
    refine DW.sub (s' := ⟨[(3, .ref 3 0), (4, .ref 4 0), (5, .ref 5 0), (6, .ref 6 0), (10, .flat (.int .i64 ((n : Nat) : Int))), (11, .flat (.int .i64 ((m : Nat) : Int))), (12, .ref 12 0)], [(3, some (.box [.sl false 1 rl LR, .sl false 1 n LBA, .sl false 1 ta LTA])), (4, some (.box [.sl false 1 rl LR, .sl false 1 m LBB, .sl false 1 tb LTB])), (5, some (.box [.flat (.bool false), .flat (.bool true), .flat (.bool true), .flat (.bool false)])), (6, some (.box [.flat (.slice none 0 0), .flat (.slice none 0 0), .flat (.slice none 0 0)])), (12, some (.box [.sl false 1 rl LR, .sl false 1 nm LF, .own 419430400005 0])), (419430400005, some (.row 22 1 0 []))]⟩) Sub.auto ?_
    refine DW.walk ?_
    refine DW.loopA (fun s : Nat => ⟨[(3, .ref 3 0), (4, .ref 4 0), (5, .ref 5 0), (6, .ref 6 0), (10, .flat (.int .i64 ((n : Nat) : Int))), (11, .flat (.int .i64 ((m : Nat) : Int))), (12, .ref 12 0), (16, .flat (.int .i64 ((s : Nat) : Int)))], [(3, some (.box [.sl false 1 rl LR, .sl false 1 n LBA, .sl false 1 ta LTA])), (4, some (.box [.sl false 1 rl LR, .sl false 1 m LBB, .sl false 1 tb LTB])), (5, some (.box [.flat (.bool false), .flat (.bool true), .flat (.bool true), .flat (.bool false)])), (6, some (.box [.flat (.slice none 0 0), .flat (.slice none 0 0), .flat (.slice none 0 0)])), (12, some (.box [.sl false 1 rl LR, .sl false 1 nm LF, .own 419430400005 s])), (419430400005, some (.row 22 1 s (rowsL (TB.take s))))]⟩) (fun s => s ≤ rl) (fun s => rl - s) 0 ?_ (Nat.zero_le _)
    intro s hs
    rcases Nat.lt_or_ge s rl with hsl | hsg
    · refine (hsy _ (by rfl) LF pF s hsl).mono ?_
      rintro e s' ⟨rfl, hsub⟩
      exact ⟨s + 1, by omega, by omega, hsub⟩
    · obtain rfl : s = rl := by omega
      rw [List.take_of_length_le (show TB.length ≤ s by omega)]
      have pT := pers_r TB
      generalize rowsL TB = TT at *
      clear hsy pTs hz
      refine DW.walkTo 43 ?_
      refine DW.sub (s' := ⟨[(3, .ref 3 0), (4, .ref 4 0), (5, .ref 5 0), (6, .ref 6 0), (10, .flat (.int .i64 ((n : Nat) : Int))), (11, .flat (.int .i64 ((m : Nat) : Int))), (12, .ref 12 0)], [(3, some (.box [.sl false 1 s LR, .sl false 1 n LBA, .sl false 1 ta LTA])), (4, some (.box [.sl false 1 s LR, .sl false 1 m LBB, .sl false 1 tb LTB])), (5, some (.box [.flat (.bool false), .flat (.bool true), .flat (.bool true), .flat (.bool false)])), (6, some (.box [.flat (.slice none 0 0), .flat (.slice none 0 0), .flat (.slice none 0 0)])), (12, some (.box [.sl false 1 s LR, .sl false 1 nm LF, .sl false 1 s TT]))]⟩) Sub.auto ?_
      refine DW.walk ?_
      exact ⟨.inr rfl, ResOk.cellTmpA [] rfl rfl rfl TyI.ag TyI.sz rfl trivial (VwL.pers (by simp [persL, pers, q1, pF, pT])) (Le.refl _) (Vw.pers rfl)⟩
end Go.Proofs.Ytichhfbkhnimmaa
