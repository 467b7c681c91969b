/- The reference: what is found. No condition. -/
import Derived.Test.YtichhfbkhnimmaaYRF0
import Derived.Test.YtichhfbkhnimmaaYRF1
import Derived.Test.YtichhfbkhnimmaaYRF2
import Derived.Test.YtichhfbkhnimmaaYD5
import Derived.Test.YtichhfbkhnimmaaYD11
import Derived.Test.YtichhfbkhnimmaaYFO3

set_option linter.unusedSimpArgs false
set_option linter.unusedVariables false
set_option maxHeartbeats 4000000
set_option maxRecDepth 8000
namespace Go.Proofs.Ytichhfbkhnimmaa
open Go Go.RowKit Go.PP Go.Dm Go.Rt Go.Mn
def comeP (A : Au) (F : List Int) : Nat → List Int
  | 0 => []
  | j + 1 => addC A j F (enumL F (A.ranks.getD j 0).toNat []) (comeP A F j)
theorem comeP_round (A : Au) (F : List Int) : ∀ j, F ++ comeP A F j = roundP A F F j
  | 0 => List.append_nil _
  | j + 1 => by
    rw [roundP_succ, ← comeP_round A F j]
    exact addC_add A j F _ _
theorem round_d (A : Au) (hok : AuOk A) (s : Nat) (hs : s < A.ranks.length) (F C : List Int) (ho : OutOk A (F ++ C)) : DFun Try.prog 101 [auD A, .flat (.int .i64 ((s : Nat) : Int)), .sl false 1 F.length (F.map fun x => D.flat (.int .i64 x)), .sl false 1 C.length (C.map fun x => D.flat (.int .i64 x))] (.sl false 1 (addC A s F (enumL F (A.ranks.getD s 0).toNat []) C).length ((addC A s F (enumL F (A.ranks.getD s 0).toNat []) C).map fun x => D.flat (.int .i64 x))) := by
  obtain ⟨r1, r2, r3⟩ := rank_at hok hs
  generalize (A.ranks.getD s 0).toNat = k at *
  rcases (show k = 0 ∨ k = 1 ∨ k = 2 by omega) with rfl | rfl | rfl
  · exact round0_d A hok s r1 F C ho
  · exact round1_d A hok s r1 F C ho
  · exact round2_d A hok s r1 F C ho
theorem found60_d (A : Au) (hok : AuOk A) : DFun Try.prog 60 [auD A] (.sl false 1 (foundA A).length ((foundA A).map fun x => D.flat (.int .i64 x))) := by
  have hn := hok.hi
  have hrl := hok.alpha.hi
  have hend := fun (k : Nat) h1 h2 => @foundK_end A hok k h1 h2
  have hko := foundK_ok hok
  have hrd := fun (k j : Nat) (hj : j < A.ranks.length) => round_d A hok j hj (foundK A k) (comeP A (foundK A k) j) (by rw [comeP_round]; exact roundP_ok hok (hko k).rng (hko k) j (by omega))
  have hcr := fun k => comeP_round A (foundK A k) A.ranks.length
  have hcl : ∀ k j, j ≤ A.ranks.length → (comeP A (foundK A k) j).length ≤ 512 := fun k j hj => by
    have h1 := roundP_ok hok (hko k).rng (hko k) j hj
    rw [← comeP_round] at h1
    have h2 := h1.len
    rw [List.length_append] at h2
    omega
  have hpI := fun U : List Int => pers_i U
  have hoI := fun U : List Int => oneL_ints U
  have h21 := OwnAt.of 21
  have q1 := pers_i A.ranks
  have q2 := pers_b A.final
  have q3 := pers_r A.to
  have hc0 : ∀ k, comeP A (foundK A k) 0 = [] := fun k => rfl
  rw [auD_eq A] at hrd ⊢
  generalize (A.ranks.map fun x => D.flat (.int .i64 x)) = LR at *
  generalize (A.final.map fun x => D.flat (.bool x)) = LB at *
  generalize rowsL A.to = LT at *
  refine DFun.enterA Try.func60 Try.ntmps60 ?_
  refine DW.walk ?_
  refine DW.loopA (fun k : Nat => ⟨[(1, .ref 1 0), (3, .sl false 1 (foundK A k).length ((foundK A k).map fun x => D.flat (.int .i64 x)))], [(1, some (.box [.sl false 1 A.ranks.length LR, .sl false 1 A.final.length LB, .sl false 1 A.to.length LT]))]⟩) (fun k => ∀ j < k, (foundK A j).length < (foundK A (j + 1)).length) (fun k => A.final.length - (foundK A k).length) 0 ?_ (by omega)
  intro k hk
  have hlk := (hko k).len
  have hlk1 := (hko (k + 1)).len
  have hr1 := hrd k
  have hc1 := hcl k
  have hc2 := hcr k
  have hc3 := hc0 k
  have hen := hend k hk
  have hF1 : roundP A (foundK A k) (foundK A k) A.ranks.length = (foundK A (k + 1)) := rfl
  rw [hF1] at hc2
  have hk1 : (foundK A k).length < (foundK A (k + 1)).length → ∀ j < k + 1, (foundK A j).length < (foundK A (j + 1)).length := fun h j hj => by
    by_cases q : j = k
    · subst q; exact h
    · exact hk j (by omega)
  have hpre : (foundK A k).length ≤ (foundK A (k + 1)).length := (roundA_pre A (foundK A k)).length_le
  clear hrd hcl hcr hend hko hk hc0
  generalize hX1 : (foundK A (k + 1)) = F1 at *
  generalize (foundK A k) = F at *
  have pF := hpI F
  have oF := hoI F
  refine DW.walk ?_
  refine DW.loopA (fun j : Nat => ⟨[(1, .ref 1 0), (3, .sl false 1 F.length (F.map fun x => D.flat (.int .i64 x))), (4, .flat (.int .i64 ((F.length : Nat) : Int))), (5, .sl false 1 (comeP A F j).length ((comeP A F j).map fun x => D.flat (.int .i64 x))), (6, .flat (.int .i64 ((j : Nat) : Int)))], [(1, some (.box [.sl false 1 A.ranks.length LR, .sl false 1 A.final.length LB, .sl false 1 A.to.length LT]))]⟩) (fun j => j ≤ A.ranks.length) (fun j => A.ranks.length - j) 0 ?_ (Nat.zero_le _) (by rw [hc3]; exact Sub.auto)
  intro j hj
  rcases Nat.lt_or_ge j A.ranks.length with hlt | hge
  · have hr := hr1 j hlt
    have hl0 := hc1 j hj
    have p0 := hpI (comeP A F j)
    have p1 := hpI (comeP A F (j + 1))
    rw [show addC A ((j : Nat) : Int) F (enumL F (A.ranks.getD j 0).toNat []) (comeP A F j) = comeP A F (j + 1) from rfl] at hr
    generalize hC1 : comeP A F (j + 1) = C1 at *
    generalize comeP A F j = C0 at *
    clear hr1 hc1 hpI hoI hen hk1
    refine DW.walk ?_
    exact ⟨j + 1, by omega, by omega, by rw [hC1]; exact Sub.auto⟩
  · obtain rfl : j = A.ranks.length := by omega
    have hl0 := hc1 _ (Nat.le_refl _)
    have p0 := hpI (comeP A F A.ranks.length)
    have o0 := hoI (comeP A F A.ranks.length)
    generalize comeP A F A.ranks.length = C0 at *
    have pF1 := hpI F1
    have hl1 : F1.length = F.length + C0.length := by rw [← hc2, List.length_append]
    have hm1 : (F.map fun x => D.flat (.int .i64 x)) ++ (C0.map fun x => D.flat (.int .i64 x)) = (F1.map fun x => D.flat (.int .i64 x)) := by rw [← hc2, List.map_append]
    clear hr1 hc1 hpI hoI hc2 hc3
    by_cases hg : F.length < F1.length
    · have hk2 := hk1 hg
      have hC : ¬ C0.length = 0 := by omega
      clear hen hk1
      generalize hY : (F1.map fun x => D.flat (.int .i64 x)) = Y1 at *
      generalize (F.map fun x => D.flat (.int .i64 x)) = Y0 at *
      generalize (C0.map fun x => D.flat (.int .i64 x)) = Z0 at *
      refine DW.walkTo 9 ?_
      try simp only [List.nil_append]
      rw [hm1]
      refine DW.walk ?_
      exact ⟨k + 1, hk2, by rw [hX1]; omega, by rw [hX1, hY, hl1]; exact Sub.auto⟩
    · have hC : C0.length = 0 := by omega
      have hfa := hen (by omega)
      rw [← hfa]
      clear hen hk1 hfa
      rw [show F1.length = 0 + F.length + C0.length by omega]
      generalize hY : (F1.map fun x => D.flat (.int .i64 x)) = Y1 at *
      generalize (F.map fun x => D.flat (.int .i64 x)) = Y0 at *
      generalize (C0.map fun x => D.flat (.int .i64 x)) = Z0 at *
      refine DW.walkTo 9 ?_
      try simp only [List.nil_append]
      rw [hm1]
      refine DW.walk ?_
      exact ⟨.inr rfl, ResOk.one [(21, some (.row 3 1 (0 + F.length + C0.length) Y1))] rfl rfl ⟨rfl, trivial⟩ (Vw.own (.head _) (VwL.pers pF1))⟩
end Go.Proofs.Ytichhfbkhnimmaa

set_option linter.unusedSimpArgs false
set_option linter.unusedVariables false
set_option maxHeartbeats 4000000
set_option maxRecDepth 8000
namespace Go.Proofs.Ytichhfbkhnimmaa
open Go Go.RowKit Go.PP Go.Dm Go.Rt Go.Mn
theorem divs {i k m : Nat} (hk : k < m) : (i * m + k) / m = i ∧ (i * m + k) % m = k := by
  have h : 0 < m := by omega
  constructor
  · rw [Nat.mul_comm, Nat.mul_add_div h, Nat.div_eq_of_lt hk, Nat.add_zero]
  · rw [Nat.mul_comm, Nat.mul_add_mod, Nat.mod_eq_of_lt hk]
theorem prodF_at (A B : Au) {i k : Nat} (hk : k < B.final.length) : prodF A B [false, true, true, false] (i * B.final.length + k) = xor (A.final.getD i false) (B.final.getD k false) := by
  unfold prodF
  rw [(divs hk).1, (divs hk).2]
  cases A.final.getD i false <;> cases B.final.getD k false <;> rfl
theorem fin_part (l : List Bool) {i : Nat} (h : i < l.length) : partD false 1 (i * 1) (l.map fun x => D.flat (.bool x)) = some (.flat (.bool (l.getD i false))) := part_b (by rw [List.getD_eq_getElem?_getD, List.getElem?_eq_getElem h]; rfl)
structure PStep (A B : Au) (s : Nat) (kk : Nat) (ds xs ys : List Int) : Prop where
  h : ∃ a b : Nat, a < A.final.length ∧ b < B.final.length ∧ prodT A B s ds = ((a * B.final.length + b : Nat) : Int) ∧ DFun Try.prog 58 [auD A, .flat (.int .i64 ((s : Nat) : Int)), .sl false 1 kk (xs.map fun x => D.flat (.int .i64 x))] (.tup [.flat (.int .i64 ((a : Nat) : Int)), .flat (.int .i64 0)]) ∧ DFun Try.prog 58 [auD B, .flat (.int .i64 ((s : Nat) : Int)), .sl false 1 kk (ys.map fun x => D.flat (.int .i64 x))] (.tup [.flat (.int .i64 ((b : Nat) : Int)), .flat (.int .i64 0)])
theorem pstep (A B : Au) (hA : AuOk A) (hB : AuOk B) (hr : A.ranks = B.ranks) (s kk : Nat) (hk : A.ranks[s]? = some ((kk : Nat) : Int)) (ds xs ys : List Int) (hl : ds.length = kk) (hd : ∀ d ∈ ds, 0 ≤ d ∧ d < ((A.final.length * B.final.length : Nat) : Int)) (hx : ds.map (fun d => d / (B.final.length : Int)) = xs) (hy : ds.map (fun d => d % (B.final.length : Int)) = ys) : PStep A B s kk ds xs ys := by
  obtain ⟨f1, f2⟩ := prod_fits hA hB hr hk (by omega) hd
  have s1 := rstep_d A hA s _ f1
  have s2 := rstep_d B hB s _ f2
  have b1 := atE_bd hA f1
  have b2 := atE_bd hB f2
  rw [hx] at s1 b1
  rw [hy] at s2 b2
  rw [show xs.length = kk by rw [← hx, List.length_map, hl]] at s1
  rw [show ys.length = kk by rw [← hy, List.length_map, hl]] at s2
  refine ⟨⟨(atI A s xs).toNat, (atI B s ys).toNat, by omega, by omega, ?_, ?_, ?_⟩⟩
  · unfold prodT
    rw [hx, hy, Int.natCast_add, Int.natCast_mul, Int.toNat_of_nonneg b1.1, Int.toNat_of_nonneg b2.1]
  · rw [Int.toNat_of_nonneg b1.1]; exact s1
  · rw [Int.toNat_of_nonneg b2.1]; exact s2
theorem digs1 {n p : Nat} (h : p < n) : digs n 1 p = [((p : Nat) : Int)] := by
  show [] ++ [((p % n : Nat) : Int)] = _
  rw [Nat.mod_eq_of_lt h]; rfl
theorem digs2 {n p : Nat} (h : p < n ^ 2) : digs n 2 p = [((p / n : Nat) : Int), ((p % n : Nat) : Int)] := by
  have h1 : p / n < n := Nat.div_lt_of_lt_mul (by rw [← Nat.pow_two]; exact h)
  show [] ++ [((p / n % n : Nat) : Int)] ++ [((p % n : Nat) : Int)] = _
  rw [Nat.mod_eq_of_lt h1]; rfl
theorem placesL_d (rs : List Int) (LB GT : List D) (n t i : Nat) (m : Nat) (hk : rs[i]? = some ((m : Nat) : Int)) (hk2 : m ≤ 2) (hn : n ≤ 512) (hLB : persL LB = true) (hGT : persL GT = true) (hrl : rs.length ≤ 4096) (ht : t ≤ 4096) :
    DLend Try.prog 50 [.agg [.sl false 1 rs.length (rs.map fun x => D.flat (.int .i64 x)), .sl false 1 n LB, .own 419430400005 t], .flat (.int .i64 ((i : Nat) : Int))] [(419430400005, some (.row 22 1 t GT))] [(419430400005, some (.row 22 1 t GT))] (.flat (.int .i64 (((wideN ((m : Nat) : Int) n) : Nat) : Int))) := by
  have hil := (List.getElem?_eq_some_iff.1 hk).1
  have hp := part_i hk
  have hLR := pers_i rs
  have hw : wideN (m : Int) n = n ^ m := by unfold wideN; rw [Int.toNat_natCast]
  rw [hw]
  generalize (rs.map fun x => D.flat (.int .i64 x)) = LR at *
  generalize rs.length = rl at *
  clear hw hk
  rcases (show m = 0 ∨ m = 1 ∨ m = 2 by omega) with rfl | rfl | rfl
  · rw [Nat.pow_zero]
    refine DLend.enterA Try.func50 Try.ntmps50 ?_
    refine DW.walk ?_
    exact ⟨.inr rfl, ResL.oneA⟩
  · rw [Nat.pow_one]
    refine DLend.enterA Try.func50 Try.ntmps50 ?_
    refine DW.walk ?_
    exact ⟨.inr rfl, ResL.oneA⟩
  · have hm : IntKind.i64.wrap ((n : Int) * (n : Int)) = ((n ^ 2 : Nat) : Int) := by
      rw [Nat.pow_two, Int.natCast_mul, IntKind.wrap_i64]
      have h1 : n * n ≤ 512 * 512 := Nat.mul_le_mul hn hn
      rw [← Int.natCast_mul]
      omega
    generalize n ^ 2 = q at *
    refine DLend.enterA Try.func50 Try.ntmps50 ?_
    refine DW.walk ?_
    exact ⟨.inr rfl, ResL.oneA⟩
end Go.Proofs.Ytichhfbkhnimmaa

set_option linter.unusedSimpArgs false
set_option linter.unusedVariables false
set_option maxHeartbeats 4000000
set_option maxRecDepth 8000
namespace Go.Proofs.Ytichhfbkhnimmaa
open Go Go.RowKit Go.PP Go.Dm Go.Rt Go.Mn
instance : TyAr Try.prog 118 4 4 := ⟨Try.underlying118⟩
instance : TyI Try.prog 118 true 4 := ⟨by kernel_rfl, by kernel_rfl⟩
noncomputable abbrev code64 : Code := Try.f64.body.getD .skip
theorem pfin_d {cc : Code} (hsel : selC [1, 1, 1, 1, 1, 1, 1, 0, 1, 2, 2, 1, 0, 2, 1, 2, 2] code64 = some cc) (n m rl ta tb i k im nm : Nat) (va vb : Bool) (LR LBA LTA LBB LTB : List D) (X0 X1 : List D) (q1 : persL LR = true) (q2 : persL LBA = true) (q3 : persL LTA = true) (q4 : persL LBB = true) (q5 : persL LTB = true) (hn : n ≤ 512) (hm : m ≤ 512) (hi : i < n) (hk : k < m) (hb : im + m ≤ nm) (hnm : nm ≤ 512) (ha1 : partD false 1 (i * 1) LBA = some (.flat (.bool va))) (ha2 : partD false 1 (k * 1) LBB = some (.flat (.bool vb))) (p0 : persL X0 = true) (p1 : persL X1 = true) (hs2 : X0 ++ [.flat (.bool (xor va vb))] = X1) :
    DW Try.prog 174 cc ⟨[(3, .ref 3 0), (4, .ref 4 0), (5, .ref 5 0), (6, .ref 6 0), (10, .flat (.int .i64 ((n : Nat) : Int))), (11, .flat (.int .i64 ((m : Nat) : Int))), (12, .ref 12 0), (13, .flat (.int .i64 ((i : Nat) : Int))), (14, .flat (.int .i64 ((k : Nat) : Int)))], [(3, some (.box [.sl false 1 rl LR, .sl false 1 n LBA, .sl false 1 ta LTA])), (4, some (.box [.sl false 1 rl LR, .sl false 1 m LBB, .sl false 1 tb LTB])), (5, some (.box [.flat (.bool false), .flat (.bool true), .flat (.bool true), .flat (.bool false)])), (6, some (.box [.flat (.slice none 0 0), .flat (.slice none 0 0), .flat (.slice none 0 0)])), (12, some (.box [.sl false 1 rl LR, .own 103 (im + k), .own 419430400005 0])), (103, some (.row 4 1 (im + k) X0)), (419430400005, some (.row 22 1 0 []))]⟩ (Nm 174 ⟨[(3, .ref 3 0), (4, .ref 4 0), (5, .ref 5 0), (6, .ref 6 0), (10, .flat (.int .i64 ((n : Nat) : Int))), (11, .flat (.int .i64 ((m : Nat) : Int))), (12, .ref 12 0), (13, .flat (.int .i64 ((i : Nat) : Int))), (14, .flat (.int .i64 (((k + 1) : Nat) : Int)))], [(3, some (.box [.sl false 1 rl LR, .sl false 1 n LBA, .sl false 1 ta LTA])), (4, some (.box [.sl false 1 rl LR, .sl false 1 m LBB, .sl false 1 tb LTB])), (5, some (.box [.flat (.bool false), .flat (.bool true), .flat (.bool true), .flat (.bool false)])), (6, some (.box [.flat (.slice none 0 0), .flat (.slice none 0 0), .flat (.slice none 0 0)])), (12, some (.box [.sl false 1 rl LR, .own 103 (im + (k + 1)), .own 419430400005 0])), (103, some (.row 4 1 (im + (k + 1)) X1)), (419430400005, some (.row 22 1 0 []))]⟩) := by
  refine DW.sel hsel (by rfl) ?_
  cases va <;> cases vb
  all_goals
    simp only [Bool.xor_true, Bool.xor_false, Bool.not_true, Bool.not_false] at hs2
    refine DW.walk ?_
    rw [hs2]
    exact Nm.mk Sub.auto
end Go.Proofs.Ytichhfbkhnimmaa

set_option linter.unusedSimpArgs false
set_option linter.unusedVariables false
set_option maxHeartbeats 4000000
set_option maxRecDepth 8000
namespace Go.Proofs.Ytichhfbkhnimmaa
open Go Go.RowKit Go.PP Go.Dm Go.Rt Go.Mn
theorem ptab0_d {cc : Code} (hsel : selC [1, 1, 1, 1, 1, 1, 1, 1, 0, 1, 2, 2, 1, 0, 2, 1, 0, 1, 2, 2] code64 = some cc) (n m nm rl ta tb s p wd a b : Nat) (LR LBA LTA LBB LTB : List D) (LF TS R0 R1 : List D) (q1 : persL LR = true) (q2 : persL LBA = true) (q3 : persL LTA = true) (q4 : persL LBB = true) (q5 : persL LTB = true) (q6 : persL LF = true) (q7 : persL TS = true) (q8 : persL R0 = true) (q9 : persL R1 = true) (hn : n ≤ 512) (hm0 : 1 ≤ m) (hm : m ≤ 512) (hn0 : 1 ≤ nm) (hnmE : n * m = nm) (hnm : nm ≤ 512) (hs : s < rl) (hrl : rl ≤ 4096) (hp : p < wd) (hwd : wd ≤ 262144) (ha : a < n) (hb : b < m) (hrk : partD false 1 (s * 1) LR = some (.flat (.int .i64 0)))
    (hpl : DLend Try.prog 50 [.agg [.sl false 1 rl LR, .sl false 1 nm LF, .own 419430400005 s], .flat (.int .i64 ((s : Nat) : Int))] [(419430400005, some (.row 22 1 s TS))] [(419430400005, some (.row 22 1 s TS))] (.flat (.int .i64 ((wd : Nat) : Int))))
    (hA : DFun Try.prog 58 [.agg [.sl false 1 rl LR, .sl false 1 n LBA, .sl false 1 ta LTA], .flat (.int .i64 ((s : Nat) : Int)), .flat (.slice none 0 0)] (.tup [.flat (.int .i64 ((a : Nat) : Int)), .flat (.int .i64 0)])) (hB : DFun Try.prog 58 [.agg [.sl false 1 rl LR, .sl false 1 m LBB, .sl false 1 tb LTB], .flat (.int .i64 ((s : Nat) : Int)), .flat (.slice none 0 0)] (.tup [.flat (.int .i64 ((b : Nat) : Int)), .flat (.int .i64 0)]))
    (hR : R0 ++ [.flat (.int .i64 (((a * m + b) : Nat) : Int))] = R1) :
    DW Try.prog 174 cc ⟨[(3, .ref 3 0), (4, .ref 4 0), (5, .ref 5 0), (6, .ref 6 0), (10, .flat (.int .i64 ((n : Nat) : Int))), (11, .flat (.int .i64 ((m : Nat) : Int))), (12, .ref 12 0), (16, .flat (.int .i64 ((s : Nat) : Int))), (17, .own 105 p), (18, .flat (.int .i64 ((p : Nat) : Int)))], [(3, some (.box [.sl false 1 rl LR, .sl false 1 n LBA, .sl false 1 ta LTA])), (4, some (.box [.sl false 1 rl LR, .sl false 1 m LBB, .sl false 1 tb LTB])), (5, some (.box [.flat (.bool false), .flat (.bool true), .flat (.bool true), .flat (.bool false)])), (6, some (.box [.flat (.slice none 0 0), .flat (.slice none 0 0), .flat (.slice none 0 0)])), (12, some (.box [.sl false 1 rl LR, .sl false 1 nm LF, .own 419430400005 s])), (419430400005, some (.row 22 1 s TS)), (105, some (.row 3 1 p R0))]⟩ (Nm 174 ⟨[(3, .ref 3 0), (4, .ref 4 0), (5, .ref 5 0), (6, .ref 6 0), (10, .flat (.int .i64 ((n : Nat) : Int))), (11, .flat (.int .i64 ((m : Nat) : Int))), (12, .ref 12 0), (16, .flat (.int .i64 ((s : Nat) : Int))), (17, .own 105 (p + 1)), (18, .flat (.int .i64 (((p + 1) : Nat) : Int)))], [(3, some (.box [.sl false 1 rl LR, .sl false 1 n LBA, .sl false 1 ta LTA])), (4, some (.box [.sl false 1 rl LR, .sl false 1 m LBB, .sl false 1 tb LTB])), (5, some (.box [.flat (.bool false), .flat (.bool true), .flat (.bool true), .flat (.bool false)])), (6, some (.box [.flat (.slice none 0 0), .flat (.slice none 0 0), .flat (.slice none 0 0)])), (12, some (.box [.sl false 1 rl LR, .sl false 1 nm LF, .own 419430400005 s])), (419430400005, some (.row 22 1 s TS)), (105, some (.row 3 1 (p + 1) R1))]⟩) := by
  refine DW.sel hsel (by rfl) ?_
  have hmw : IntKind.i64.wrap ((n : Int) * (m : Int)) = ((nm : Nat) : Int) := by rw [← Int.natCast_mul, hnmE, IntKind.wrap_i64]; omega
  have ham : a * m + b < 300000 := by
    have : a * m ≤ 512 * 512 := Nat.mul_le_mul (by omega) hm
    omega
  have haw : IntKind.i64.wrap ((a : Int) * (m : Int)) = ((a * m : Nat) : Int) := by rw [← Int.natCast_mul, IntKind.wrap_i64]; omega
  rw [Int.natCast_add] at hR
  generalize a * m = am at *
  have hq1 : p / nm ≤ 262144 := Nat.le_trans (Nat.div_le_self _ _) (by omega)
  have hq2 : p % nm < nm := Nat.mod_lt _ hn0
  have hpl2 := fun _ : Unit => hpl
  clear hpl
  refine DW.walk ?_
  refine DC.t (T.lendA (ar := [_, _]) (ds := [_, _]) EntC.h (hpl2 ()) rfl ⟨Vl.agg ⟨Vl.pers (by simp only [pers, q1]), Vl.pers (by simp only [pers, q6]), Vl.own rfl, trivial⟩, Vl.pers rfl, trivial⟩ rfl (by first | rfl | decide +kernel) EsL.auto) ⟨rfl, rfl, trivial⟩ (by repeat (first | exact trivial | refine ⟨rfl, ?_⟩)) ?_
  refine DC.walk ?_
  try rw [hR]
  exact Nm.mk Sub.auto
end Go.Proofs.Ytichhfbkhnimmaa

set_option linter.unusedSimpArgs false
set_option linter.unusedVariables false
set_option maxHeartbeats 4000000
set_option maxRecDepth 8000
namespace Go.Proofs.Ytichhfbkhnimmaa
open Go Go.RowKit Go.PP Go.Dm Go.Rt Go.Mn
theorem ptab1_d {cc : Code} (hsel : selC [1, 1, 1, 1, 1, 1, 1, 1, 0, 1, 2, 2, 1, 0, 2, 1, 0, 1, 2, 2] code64 = some cc) (n m nm rl ta tb s p wd a b : Nat) (LR LBA LTA LBB LTB : List D) (LF TS R0 R1 : List D) (q1 : persL LR = true) (q2 : persL LBA = true) (q3 : persL LTA = true) (q4 : persL LBB = true) (q5 : persL LTB = true) (q6 : persL LF = true) (q7 : persL TS = true) (q8 : persL R0 = true) (q9 : persL R1 = true) (hn : n ≤ 512) (hm0 : 1 ≤ m) (hm : m ≤ 512) (hn0 : 1 ≤ nm) (hnmE : n * m = nm) (hnm : nm ≤ 512) (hs : s < rl) (hrl : rl ≤ 4096) (hp : p < wd) (hwd : wd ≤ 262144) (ha : a < n) (hb : b < m) (hrk : partD false 1 (s * 1) LR = some (.flat (.int .i64 1)))
    (hpl : DLend Try.prog 50 [.agg [.sl false 1 rl LR, .sl false 1 nm LF, .own 419430400005 s], .flat (.int .i64 ((s : Nat) : Int))] [(419430400005, some (.row 22 1 s TS))] [(419430400005, some (.row 22 1 s TS))] (.flat (.int .i64 ((wd : Nat) : Int))))
    (hA : DFun Try.prog 58 [.agg [.sl false 1 rl LR, .sl false 1 n LBA, .sl false 1 ta LTA], .flat (.int .i64 ((s : Nat) : Int)), .sl true 1 1 [.flat (.int .i64 (((p / m) : Nat) : Int))]] (.tup [.flat (.int .i64 ((a : Nat) : Int)), .flat (.int .i64 0)])) (hB : DFun Try.prog 58 [.agg [.sl false 1 rl LR, .sl false 1 m LBB, .sl false 1 tb LTB], .flat (.int .i64 ((s : Nat) : Int)), .sl true 1 1 [.flat (.int .i64 (((p % m) : Nat) : Int))]] (.tup [.flat (.int .i64 ((b : Nat) : Int)), .flat (.int .i64 0)]))
    (hR : R0 ++ [.flat (.int .i64 (((a * m + b) : Nat) : Int))] = R1) :
    DW Try.prog 174 cc ⟨[(3, .ref 3 0), (4, .ref 4 0), (5, .ref 5 0), (6, .ref 6 0), (10, .flat (.int .i64 ((n : Nat) : Int))), (11, .flat (.int .i64 ((m : Nat) : Int))), (12, .ref 12 0), (16, .flat (.int .i64 ((s : Nat) : Int))), (17, .own 105 p), (18, .flat (.int .i64 ((p : Nat) : Int)))], [(3, some (.box [.sl false 1 rl LR, .sl false 1 n LBA, .sl false 1 ta LTA])), (4, some (.box [.sl false 1 rl LR, .sl false 1 m LBB, .sl false 1 tb LTB])), (5, some (.box [.flat (.bool false), .flat (.bool true), .flat (.bool true), .flat (.bool false)])), (6, some (.box [.flat (.slice none 0 0), .flat (.slice none 0 0), .flat (.slice none 0 0)])), (12, some (.box [.sl false 1 rl LR, .sl false 1 nm LF, .own 419430400005 s])), (419430400005, some (.row 22 1 s TS)), (105, some (.row 3 1 p R0))]⟩ (Nm 174 ⟨[(3, .ref 3 0), (4, .ref 4 0), (5, .ref 5 0), (6, .ref 6 0), (10, .flat (.int .i64 ((n : Nat) : Int))), (11, .flat (.int .i64 ((m : Nat) : Int))), (12, .ref 12 0), (16, .flat (.int .i64 ((s : Nat) : Int))), (17, .own 105 (p + 1)), (18, .flat (.int .i64 (((p + 1) : Nat) : Int)))], [(3, some (.box [.sl false 1 rl LR, .sl false 1 n LBA, .sl false 1 ta LTA])), (4, some (.box [.sl false 1 rl LR, .sl false 1 m LBB, .sl false 1 tb LTB])), (5, some (.box [.flat (.bool false), .flat (.bool true), .flat (.bool true), .flat (.bool false)])), (6, some (.box [.flat (.slice none 0 0), .flat (.slice none 0 0), .flat (.slice none 0 0)])), (12, some (.box [.sl false 1 rl LR, .sl false 1 nm LF, .own 419430400005 s])), (419430400005, some (.row 22 1 s TS)), (105, some (.row 3 1 (p + 1) R1))]⟩) := by
  refine DW.sel hsel (by rfl) ?_
  have hmw : IntKind.i64.wrap ((n : Int) * (m : Int)) = ((nm : Nat) : Int) := by rw [← Int.natCast_mul, hnmE, IntKind.wrap_i64]; omega
  have ham : a * m + b < 300000 := by
    have : a * m ≤ 512 * 512 := Nat.mul_le_mul (by omega) hm
    omega
  have haw : IntKind.i64.wrap ((a : Int) * (m : Int)) = ((a * m : Nat) : Int) := by rw [← Int.natCast_mul, IntKind.wrap_i64]; omega
  rw [Int.natCast_add] at hR
  generalize a * m = am at *
  have hq1 : p / nm ≤ 262144 := Nat.le_trans (Nat.div_le_self _ _) (by omega)
  have hq2 : p % nm < nm := Nat.mod_lt _ hn0
  have hpl2 := fun _ : Unit => hpl
  clear hpl
  refine DW.walk ?_
  refine DC.t (T.lendA (ar := [_, _]) (ds := [_, _]) EntC.h (hpl2 ()) rfl ⟨Vl.agg ⟨Vl.pers (by simp only [pers, q1]), Vl.pers (by simp only [pers, q6]), Vl.own rfl, trivial⟩, Vl.pers rfl, trivial⟩ rfl (by first | rfl | decide +kernel) EsL.auto) ⟨rfl, rfl, trivial⟩ (by repeat (first | exact trivial | refine ⟨rfl, ?_⟩)) ?_
  refine DC.walk ?_
  try rw [hR]
  exact Nm.mk Sub.auto
end Go.Proofs.Ytichhfbkhnimmaa

set_option linter.unusedSimpArgs false
set_option linter.unusedVariables false
set_option maxHeartbeats 4000000
set_option maxRecDepth 8000
namespace Go.Proofs.Ytichhfbkhnimmaa
open Go Go.RowKit Go.PP Go.Dm Go.Rt Go.Mn
theorem ptab2_d {cc : Code} (hsel : selC [1, 1, 1, 1, 1, 1, 1, 1, 0, 1, 2, 2, 1, 0, 2, 1, 0, 1, 2, 2] code64 = some cc) (n m nm rl ta tb s p wd a b : Nat) (LR LBA LTA LBB LTB : List D) (LF TS R0 R1 : List D) (q1 : persL LR = true) (q2 : persL LBA = true) (q3 : persL LTA = true) (q4 : persL LBB = true) (q5 : persL LTB = true) (q6 : persL LF = true) (q7 : persL TS = true) (q8 : persL R0 = true) (q9 : persL R1 = true) (hn : n ≤ 512) (hm0 : 1 ≤ m) (hm : m ≤ 512) (hn0 : 1 ≤ nm) (hnmE : n * m = nm) (hnm : nm ≤ 512) (hs : s < rl) (hrl : rl ≤ 4096) (hp : p < wd) (hwd : wd ≤ 262144) (ha : a < n) (hb : b < m) (hrk : partD false 1 (s * 1) LR = some (.flat (.int .i64 2)))
    (hpl : DLend Try.prog 50 [.agg [.sl false 1 rl LR, .sl false 1 nm LF, .own 419430400005 s], .flat (.int .i64 ((s : Nat) : Int))] [(419430400005, some (.row 22 1 s TS))] [(419430400005, some (.row 22 1 s TS))] (.flat (.int .i64 ((wd : Nat) : Int))))
    (hA : DFun Try.prog 58 [.agg [.sl false 1 rl LR, .sl false 1 n LBA, .sl false 1 ta LTA], .flat (.int .i64 ((s : Nat) : Int)), .sl true 1 2 [.flat (.int .i64 (((p / nm / m) : Nat) : Int)), .flat (.int .i64 (((p % nm / m) : Nat) : Int))]] (.tup [.flat (.int .i64 ((a : Nat) : Int)), .flat (.int .i64 0)])) (hB : DFun Try.prog 58 [.agg [.sl false 1 rl LR, .sl false 1 m LBB, .sl false 1 tb LTB], .flat (.int .i64 ((s : Nat) : Int)), .sl true 1 2 [.flat (.int .i64 (((p / nm % m) : Nat) : Int)), .flat (.int .i64 (((p % nm % m) : Nat) : Int))]] (.tup [.flat (.int .i64 ((b : Nat) : Int)), .flat (.int .i64 0)]))
    (hR : R0 ++ [.flat (.int .i64 (((a * m + b) : Nat) : Int))] = R1) :
    DW Try.prog 174 cc ⟨[(3, .ref 3 0), (4, .ref 4 0), (5, .ref 5 0), (6, .ref 6 0), (10, .flat (.int .i64 ((n : Nat) : Int))), (11, .flat (.int .i64 ((m : Nat) : Int))), (12, .ref 12 0), (16, .flat (.int .i64 ((s : Nat) : Int))), (17, .own 105 p), (18, .flat (.int .i64 ((p : Nat) : Int)))], [(3, some (.box [.sl false 1 rl LR, .sl false 1 n LBA, .sl false 1 ta LTA])), (4, some (.box [.sl false 1 rl LR, .sl false 1 m LBB, .sl false 1 tb LTB])), (5, some (.box [.flat (.bool false), .flat (.bool true), .flat (.bool true), .flat (.bool false)])), (6, some (.box [.flat (.slice none 0 0), .flat (.slice none 0 0), .flat (.slice none 0 0)])), (12, some (.box [.sl false 1 rl LR, .sl false 1 nm LF, .own 419430400005 s])), (419430400005, some (.row 22 1 s TS)), (105, some (.row 3 1 p R0))]⟩ (Nm 174 ⟨[(3, .ref 3 0), (4, .ref 4 0), (5, .ref 5 0), (6, .ref 6 0), (10, .flat (.int .i64 ((n : Nat) : Int))), (11, .flat (.int .i64 ((m : Nat) : Int))), (12, .ref 12 0), (16, .flat (.int .i64 ((s : Nat) : Int))), (17, .own 105 (p + 1)), (18, .flat (.int .i64 (((p + 1) : Nat) : Int)))], [(3, some (.box [.sl false 1 rl LR, .sl false 1 n LBA, .sl false 1 ta LTA])), (4, some (.box [.sl false 1 rl LR, .sl false 1 m LBB, .sl false 1 tb LTB])), (5, some (.box [.flat (.bool false), .flat (.bool true), .flat (.bool true), .flat (.bool false)])), (6, some (.box [.flat (.slice none 0 0), .flat (.slice none 0 0), .flat (.slice none 0 0)])), (12, some (.box [.sl false 1 rl LR, .sl false 1 nm LF, .own 419430400005 s])), (419430400005, some (.row 22 1 s TS)), (105, some (.row 3 1 (p + 1) R1))]⟩) := by
  refine DW.sel hsel (by rfl) ?_
  have hmw : IntKind.i64.wrap ((n : Int) * (m : Int)) = ((nm : Nat) : Int) := by rw [← Int.natCast_mul, hnmE, IntKind.wrap_i64]; omega
  have ham : a * m + b < 300000 := by
    have : a * m ≤ 512 * 512 := Nat.mul_le_mul (by omega) hm
    omega
  have haw : IntKind.i64.wrap ((a : Int) * (m : Int)) = ((a * m : Nat) : Int) := by rw [← Int.natCast_mul, IntKind.wrap_i64]; omega
  rw [Int.natCast_add] at hR
  generalize a * m = am at *
  have hq1 : p / nm ≤ 262144 := Nat.le_trans (Nat.div_le_self _ _) (by omega)
  have hq2 : p % nm < nm := Nat.mod_lt _ hn0
  have hpl2 := fun _ : Unit => hpl
  clear hpl
  refine DW.walk ?_
  refine DC.t (T.lendA (ar := [_, _]) (ds := [_, _]) EntC.h (hpl2 ()) rfl ⟨Vl.agg ⟨Vl.pers (by simp only [pers, q1]), Vl.pers (by simp only [pers, q6]), Vl.own rfl, trivial⟩, Vl.pers rfl, trivial⟩ rfl (by first | rfl | decide +kernel) EsL.auto) ⟨rfl, rfl, trivial⟩ (by repeat (first | exact trivial | refine ⟨rfl, ?_⟩)) ?_
  refine DC.walk ?_
  try rw [hR]
  exact Nm.mk Sub.auto
end Go.Proofs.Ytichhfbkhnimmaa
