/- The reference: the product, a table. No condition. -/
import Derived.Test.YtichhfbkhnimmaaYPR2c

set_option linter.unusedSimpArgs false
set_option linter.unusedVariables false
set_option maxHeartbeats 4000000
set_option maxRecDepth 8000
namespace Go.Proofs.Ytichhfbkhnimmaa
open Go Go.RowKit Go.PP Go.Dm Go.Rt Go.Mn
theorem psym_d {cc : Code} (hsel : selC [1, 1, 1, 1, 1, 1, 1, 1, 0, 1, 2, 2] code64 = some cc) (A B : Au) (hA : AuOk A) (hB : AuOk B) (hr : A.ranks = B.ranks) (hnm : A.final.length * B.final.length ≤ 512) (LF : List D) (q6 : persL LF = true) (s : Nat) (hs : s < A.ranks.length) :
    DW Try.prog 174 cc ⟨[(3, .ref 3 0), (4, .ref 4 0), (5, .ref 5 0), (6, .ref 6 0), (10, .flat (.int .i64 ((A.final.length : Nat) : Int))), (11, .flat (.int .i64 ((B.final.length : Nat) : Int))), (12, .ref 12 0), (16, .flat (.int .i64 ((s : Nat) : Int)))], [(3, some (.box [.sl false 1 A.ranks.length (A.ranks.map fun x => D.flat (.int .i64 x)), .sl false 1 A.final.length (A.final.map fun x => D.flat (.bool x)), .sl false 1 A.to.length (rowsL A.to)])), (4, some (.box [.sl false 1 A.ranks.length (A.ranks.map fun x => D.flat (.int .i64 x)), .sl false 1 B.final.length (B.final.map fun x => D.flat (.bool x)), .sl false 1 B.to.length (rowsL B.to)])), (5, some (.box [.flat (.bool false), .flat (.bool true), .flat (.bool true), .flat (.bool false)])), (6, some (.box [.flat (.slice none 0 0), .flat (.slice none 0 0), .flat (.slice none 0 0)])), (12, some (.box [.sl false 1 A.ranks.length (A.ranks.map fun x => D.flat (.int .i64 x)), .sl false 1 (A.final.length * B.final.length) LF, .own 419430400005 s])), (419430400005, some (.row 22 1 s (rowsL ((tablesOf (A.final.length * B.final.length) (prodT A B) A.ranks).take s))))]⟩ (Nm 174 ⟨[(3, .ref 3 0), (4, .ref 4 0), (5, .ref 5 0), (6, .ref 6 0), (10, .flat (.int .i64 ((A.final.length : Nat) : Int))), (11, .flat (.int .i64 ((B.final.length : Nat) : Int))), (12, .ref 12 0), (16, .flat (.int .i64 (((s + 1) : Nat) : Int)))], [(3, some (.box [.sl false 1 A.ranks.length (A.ranks.map fun x => D.flat (.int .i64 x)), .sl false 1 A.final.length (A.final.map fun x => D.flat (.bool x)), .sl false 1 A.to.length (rowsL A.to)])), (4, some (.box [.sl false 1 A.ranks.length (A.ranks.map fun x => D.flat (.int .i64 x)), .sl false 1 B.final.length (B.final.map fun x => D.flat (.bool x)), .sl false 1 B.to.length (rowsL B.to)])), (5, some (.box [.flat (.bool false), .flat (.bool true), .flat (.bool true), .flat (.bool false)])), (6, some (.box [.flat (.slice none 0 0), .flat (.slice none 0 0), .flat (.slice none 0 0)])), (12, some (.box [.sl false 1 A.ranks.length (A.ranks.map fun x => D.flat (.int .i64 x)), .sl false 1 (A.final.length * B.final.length) LF, .own 419430400005 (s + 1)])), (419430400005, some (.row 22 1 (s + 1) (rowsL ((tablesOf (A.final.length * B.final.length) (prodT A B) A.ranks).take (s + 1)))))]⟩) := by
  obtain ⟨k1, k2, k3⟩ := rank_at hA hs
  generalize (A.ranks.getD s 0).toNat = kk at *
  have hps := fun ds xs ys hl hd hx hy => (pstep A B hA hB hr s kk k1 ds xs ys hl hd hx hy).h
  have hn0 : 1 ≤ A.final.length * B.final.length := Nat.mul_le_mul hA.lo hB.lo
  have hm0 := hB.lo
  have hn := hA.hi
  have hm := hB.hi
  have hrl := hA.alpha.hi
  have hrk := part_i k1
  have pT := pers_r ((tablesOf (A.final.length * B.final.length) (prodT A B) A.ranks).take s)
  have pT1 := pers_r ((tablesOf (A.final.length * B.final.length) (prodT A B) A.ranks).take (s + 1))
  have hpl := placesL_d A.ranks LF (rowsL ((tablesOf (A.final.length * B.final.length) (prodT A B) A.ranks).take s)) (A.final.length * B.final.length) s s kk k1 k2 hnm q6 pT hrl (by omega)
  have hsr := rows_snoc (tables_get (n := A.final.length * B.final.length) (T := prodT A B) k1)
  have htb : tableOf (A.final.length * B.final.length) (prodT A B) s (kk : Int) = (List.range (wideN (kk : Int) (A.final.length * B.final.length))).map fun p => prodT A B s (digs (A.final.length * B.final.length) kk p) := by simp [tableOf]
  rw [htb] at hsr
  simp only [List.length_map, List.length_range] at hsr
  have hwb := wideN_le (k := (kk : Int)) (n := A.final.length * B.final.length) (by omega) hnm
  have hwe : wideN (kk : Int) (A.final.length * B.final.length) = (A.final.length * B.final.length) ^ kk := by unfold wideN; rw [Int.toNat_natCast]
  have q1 := pers_i A.ranks
  have q2 := pers_b A.final
  have q3 := pers_r A.to
  have q4 := pers_b B.final
  have q5 := pers_r B.to
  clear htb k1 k3
  rw [auD_eq A] at hps
  rw [auD_eq B, ← hr] at hps
  generalize (A.ranks.map fun x => D.flat (.int .i64 x)) = LR at *
  generalize (A.final.map fun x => D.flat (.bool x)) = LBA at *
  generalize rowsL A.to = LTA at *
  generalize (B.final.map fun x => D.flat (.bool x)) = LBB at *
  generalize rowsL B.to = LTB at *
  generalize hgr : A.ranks.length = rl at *
  generalize A.final.length = n at *
  generalize B.final.length = m at *
  generalize A.to.length = ta at *
  generalize B.to.length = tb at *
  generalize hTt : prodT A B = Tt at *
  generalize hnmE : n * m = nm at *
  clear hr hA hB
  generalize hTS1 : (rowsL ((tablesOf nm Tt A.ranks).take (s + 1))) = TS1 at *
  generalize (rowsL ((tablesOf nm Tt A.ranks).take s)) = TS at *
  generalize wideN (kk : Int) nm = wd at *
  have hst := hps
  refine DW.sel hsel (by rfl) ?_
  refine DW.walkTo 29 ?_
  refine DW.adopt 17 105 3 1 rfl rfl ?_
  refine DW.walk ?_
  refine DW.loopA (fun p : Nat => ⟨[(3, .ref 3 0), (4, .ref 4 0), (5, .ref 5 0), (6, .ref 6 0), (10, .flat (.int .i64 ((n : Nat) : Int))), (11, .flat (.int .i64 ((m : Nat) : Int))), (12, .ref 12 0), (16, .flat (.int .i64 ((s : Nat) : Int))), (17, .own 105 p), (18, .flat (.int .i64 ((p : Nat) : Int)))], [(3, some (.box [.sl false 1 rl LR, .sl false 1 n LBA, .sl false 1 ta LTA])), (4, some (.box [.sl false 1 rl LR, .sl false 1 m LBB, .sl false 1 tb LTB])), (5, some (.box [.flat (.bool false), .flat (.bool true), .flat (.bool true), .flat (.bool false)])), (6, some (.box [.flat (.slice none 0 0), .flat (.slice none 0 0), .flat (.slice none 0 0)])), (12, some (.box [.sl false 1 rl LR, .sl false 1 nm LF, .own 419430400005 s])), (419430400005, some (.row 22 1 s TS)), (105, some (.row 3 1 p (((List.range p).map fun q => Tt s (digs nm kk q)).map fun x => D.flat (.int .i64 x))))]⟩) (fun p => p ≤ wd) (fun p => wd - p) 0 ?_ (Nat.zero_le _) (by simp only [List.range_zero, List.map_nil]; exact Sub.auto)
  intro p hp
  rcases Nat.lt_or_ge p wd with hlt | hge
  · rcases (show kk = 0 ∨ kk = 1 ∨ kk = 2 by omega) with rfl | rfl | rfl
    · have hlt2 : p < nm ^ 0 := by rw [← hwe]; exact hlt
      have hdg : digs nm 0 p = [] := rfl
      obtain ⟨a, b, ha, hb, hv, d1, d2⟩ := hst [] [] [] rfl (fun d hd => by cases hd) (by simp) (by simp)
      have d1 := DFun.le (args' := [_, _, .flat (.slice none 0 0)]) d1 ⟨Le.refl _, Le.refl _, Le.nil _ _, trivial⟩ (Le.refl _)
      have d2 := DFun.le (args' := [_, _, .flat (.slice none 0 0)]) d2 ⟨Le.refl _, Le.refl _, Le.nil _ _, trivial⟩ (Le.refl _)
      have hR : (((List.range p).map fun q => Tt s (digs nm 0 q)).map fun x => D.flat (.int .i64 x)) ++ [.flat (.int .i64 (((a * m + b) : Nat) : Int))] = (((List.range (p + 1)).map fun q => Tt s (digs nm 0 q)).map fun x => D.flat (.int .i64 x)) := by
        rw [List.range_succ, List.map_append, List.map_append, ← hv, ← hdg]; rfl
      refine (ptab0_d (by rfl) n m nm rl ta tb s p wd a b LR LBA LTA LBB LTB LF TS _ _ q1 q2 q3 q4 q5 q6 pT (pers_i _) (pers_i _) hn hm0 hm hn0 hnmE hnm hs hrl hlt hwb ha hb hrk hpl d1 d2 hR).mono ?_
      rintro e s' ⟨rfl, hsub⟩
      exact ⟨p + 1, by omega, by omega, hsub⟩
    · have hlt2 : p < nm ^ 1 := by rw [← hwe]; exact hlt
      have hdg : digs nm 1 p = [((p : Nat) : Int)] := digs1 (by simpa using hlt2)
      obtain ⟨a, b, ha, hb, hv, d1, d2⟩ := hst [((p : Nat) : Int)] [((p / m : Nat) : Int)] [((p % m : Nat) : Int)] rfl (fun d hd => by rw [List.mem_singleton.1 hd]; exact ⟨Int.natCast_nonneg _, Int.ofNat_lt.2 (by rw [← Nat.pow_one nm]; exact hlt2)⟩) (by simp) (by simp)
      have d1 := DFun.le (args' := [_, _, .sl true 1 1 [.flat (.int .i64 (((p / m) : Nat) : Int))]]) d1 ⟨Le.refl _, Le.refl _, Le.full, trivial⟩ (Le.refl _)
      have d2 := DFun.le (args' := [_, _, .sl true 1 1 [.flat (.int .i64 (((p % m) : Nat) : Int))]]) d2 ⟨Le.refl _, Le.refl _, Le.full, trivial⟩ (Le.refl _)
      have hR : (((List.range p).map fun q => Tt s (digs nm 1 q)).map fun x => D.flat (.int .i64 x)) ++ [.flat (.int .i64 (((a * m + b) : Nat) : Int))] = (((List.range (p + 1)).map fun q => Tt s (digs nm 1 q)).map fun x => D.flat (.int .i64 x)) := by
        rw [List.range_succ, List.map_append, List.map_append, ← hv, ← hdg]; rfl
      refine (ptab1_d (by rfl) n m nm rl ta tb s p wd a b LR LBA LTA LBB LTB LF TS _ _ q1 q2 q3 q4 q5 q6 pT (pers_i _) (pers_i _) hn hm0 hm hn0 hnmE hnm hs hrl hlt hwb ha hb hrk hpl d1 d2 hR).mono ?_
      rintro e s' ⟨rfl, hsub⟩
      exact ⟨p + 1, by omega, by omega, hsub⟩
    · have hlt2 : p < nm ^ 2 := by rw [← hwe]; exact hlt
      have hdg : digs nm 2 p = [((p / nm : Nat) : Int), ((p % nm : Nat) : Int)] := digs2 hlt2
      obtain ⟨a, b, ha, hb, hv, d1, d2⟩ := hst [((p / nm : Nat) : Int), ((p % nm : Nat) : Int)] [((p / nm / m : Nat) : Int), ((p % nm / m : Nat) : Int)] [((p / nm % m : Nat) : Int), ((p % nm % m : Nat) : Int)] rfl (fun d hd => by
        have z1 : p / nm < nm := Nat.div_lt_of_lt_mul (by rw [← Nat.pow_two]; exact hlt2)
        have z2 : p % nm < nm := Nat.mod_lt _ hn0
        rcases List.mem_cons.1 hd with rfl | hd
        · exact ⟨Int.natCast_nonneg _, Int.ofNat_lt.2 z1⟩
        · rw [List.mem_singleton.1 hd]; exact ⟨Int.natCast_nonneg _, Int.ofNat_lt.2 z2⟩) (by simp) (by simp)
      have d1 := DFun.le (args' := [_, _, .sl true 1 2 [.flat (.int .i64 (((p / nm / m) : Nat) : Int)), .flat (.int .i64 (((p % nm / m) : Nat) : Int))]]) d1 ⟨Le.refl _, Le.refl _, Le.full, trivial⟩ (Le.refl _)
      have d2 := DFun.le (args' := [_, _, .sl true 1 2 [.flat (.int .i64 (((p / nm % m) : Nat) : Int)), .flat (.int .i64 (((p % nm % m) : Nat) : Int))]]) d2 ⟨Le.refl _, Le.refl _, Le.full, trivial⟩ (Le.refl _)
      have hR : (((List.range p).map fun q => Tt s (digs nm 2 q)).map fun x => D.flat (.int .i64 x)) ++ [.flat (.int .i64 (((a * m + b) : Nat) : Int))] = (((List.range (p + 1)).map fun q => Tt s (digs nm 2 q)).map fun x => D.flat (.int .i64 x)) := by
        rw [List.range_succ, List.map_append, List.map_append, ← hv, ← hdg]; rfl
      refine (ptab2_d (by rfl) n m nm rl ta tb s p wd a b LR LBA LTA LBB LTB LF TS _ _ q1 q2 q3 q4 q5 q6 pT (pers_i _) (pers_i _) hn hm0 hm hn0 hnmE hnm hs hrl hlt hwb ha hb hrk hpl d1 d2 hR).mono ?_
      rintro e s' ⟨rfl, hsub⟩
      exact ⟨p + 1, by omega, by omega, hsub⟩
  · obtain rfl : p = wd := by omega
    have pR := pers_i ((List.range p).map fun q => Tt s (digs nm kk q))
    generalize (((List.range p).map fun q => Tt s (digs nm kk q)).map fun x => D.flat (.int .i64 x)) = RW at *
    have hpl2 := fun _ : Unit => hpl
    clear hpl hst hps hwe
    refine DW.walk ?_
    refine DC.t (T.lendA (ar := [_, _]) (ds := [_, _]) EntC.h (hpl2 ()) rfl ⟨Vl.agg ⟨Vl.pers (by simp only [pers, q1]), Vl.pers (by simp only [pers, q6]), Vl.own rfl, trivial⟩, Vl.pers rfl, trivial⟩ rfl (by first | rfl | decide +kernel) EsL.auto) ⟨rfl, rfl, trivial⟩ (by repeat (first | exact trivial | refine ⟨rfl, ?_⟩)) ?_
    refine DC.walkTo 42 ?_
    refine DW.sub (s' := ⟨[(3, .ref 3 0), (4, .ref 4 0), (5, .ref 5 0), (6, .ref 6 0), (10, .flat (.int .i64 ((n : Nat) : Int))), (11, .flat (.int .i64 ((m : Nat) : Int))), (12, .ref 12 0), (16, .flat (.int .i64 ((s : Nat) : Int))), (17, .sl false 1 p RW)], [(3, some (.box [.sl false 1 rl LR, .sl false 1 n LBA, .sl false 1 ta LTA])), (4, some (.box [.sl false 1 rl LR, .sl false 1 m LBB, .sl false 1 tb LTB])), (5, some (.box [.flat (.bool false), .flat (.bool true), .flat (.bool true), .flat (.bool false)])), (6, some (.box [.flat (.slice none 0 0), .flat (.slice none 0 0), .flat (.slice none 0 0)])), (12, some (.box [.sl false 1 rl LR, .sl false 1 nm LF, .own 419430400005 s])), (419430400005, some (.row 22 1 s TS))]⟩) Sub.auto ?_
    refine DW.walk ?_
    rw [← hsr]
    exact Nm.mk Sub.auto
end Go.Proofs.Ytichhfbkhnimmaa
