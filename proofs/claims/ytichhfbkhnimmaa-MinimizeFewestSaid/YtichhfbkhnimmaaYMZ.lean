/- A renumbered automaton stands in itself. No condition. -/
import Derived.Test.YtichhfbkhnimmaaYFO3
import Derived.Test.YtichhfbkhnimmaaYRP
import Derived.Test.YtichhfbkhnimmaaYD11
import Derived.Test.YtichhfbkhnimmaaYQB
import Derived.Test.YtichhfbkhnimmaaYQC2
import Derived.Test.YtichhfbkhnimmaaYD8

set_option linter.unusedSimpArgs false
set_option linter.unusedVariables false
set_option maxHeartbeats 4000000
set_option maxRecDepth 8000
namespace Go.Proofs.Ytichhfbkhnimmaa
open Go Go.RowKit Go.PP Go.Dm Go.Rt Go.Mn
theorem at_succ {A : Au} (hok : AuOk A) {i p : Nat} (hi : i < A.ranks.length) {ds : List Int} (hp : (placeOf A.final.length ds).toNat = p) (hpl : p < (rowN A i).length) : atI A (i : Int) ds = ((succN A i p : Nat) : Int) := by
  obtain ⟨h1, h2, h3⟩ := rowN_at hok hi
  have h4 := h3 p _ (List.getElem?_eq_getElem hpl)
  unfold atI
  rw [Int.toNat_natCast, hp]
  show (rowN A i).getD p 0 = _
  rw [List.getD_eq_getElem?_getD, List.getElem?_eq_getElem hpl]
  exact h4.1
theorem table_at {n : Nat} {T : Int → List Int → Int} {i k p : Nat} (h : p < n ^ k) : (tableOf n T i ((k : Nat) : Int))[p]? = some (T i (digs n k p)) := by
  unfold tableOf wideN
  rw [Int.toNat_natCast, List.getElem?_map, List.getElem?_range h]; rfl
theorem phi_idxN {l : List Int} {x : Int} (h : x ∈ l) : l.getD ((l.idxOf x : Nat) : Int).toNat 0 = x := by
  have := phi_idx h
  rw [hasI_mem h] at this
  exact this
theorem iso_kept {A : Au} (hok : AuOk A) {l : List Int} (hall : ∀ x : Nat, x < A.final.length → (x : Int) ∈ l) (hlen : l.length = A.final.length) : Iso A (keptA A l) (fun x => l.idxOf (x : Int)) := by
  have hlt : ∀ x : Nat, x < A.final.length → l.idxOf (x : Int) < A.final.length := fun x hx => by
    have := List.idxOf_lt_length_of_mem (hall x hx)
    omega
  have hto : ∀ i k : Nat, A.ranks[i]? = some ((k : Nat) : Int) → (keptA A l).to[i]? = some (tableOf l.length (keptT A l) i ((k : Nat) : Int)) := fun i k h => tables_get h
  have hgt : ∀ (i : Nat) (ds : List Int) (s : Nat), atI A i (ds.map fun d => l.getD d.toNat 0) = ((s : Nat) : Int) → s < A.final.length → keptT A l i ds = ((l.idxOf ((s : Nat) : Int) : Nat) : Int) := fun i ds s h hs => by
    unfold keptT
    rw [h, hasI_mem (hall s hs)]
  refine ⟨hlt, ?_, fun i hi hr => ?_, fun i hi hr => ?_, fun i hi hr => ?_⟩
  · show (tablesOf _ _ _).length = _
    rw [hok.len]; simp [tablesOf]
  all_goals
    obtain ⟨h1, h2, h3⟩ := rowN_at hok hi
    obtain ⟨-, hrk⟩ := rankN_le hok hi
    rw [hr] at h2 hrk
    have hsl : ∀ p, p < (rowN A i).length → succN A i p < A.final.length := fun p hp => (h3 p _ (List.getElem?_eq_getElem hp)).2
    refine ⟨_, hto i _ hrk, ?_⟩
  · rw [table_at (by simp)]
    have h0 : 0 < (rowN A i).length := by rw [h2]; simp
    rw [hgt i (digs l.length 0 0) (succN A i 0) (at_succ hok hi rfl h0) (hsl 0 h0)]
  · intro p hp
    have h0 : p < (rowN A i).length := by rw [h2]; simpa using hp
    rw [table_at (by rw [hlen]; simpa using hlt p hp), digs_one (by rw [hlen]; exact hlt p hp)]
    rw [hgt i _ (succN A i p) ?_ (hsl p h0)]
    rw [List.map_cons, List.map_nil, phi_idxN (hall p hp)]
    exact at_succ hok hi (by show (0 * _ + (p : Int)).toNat = p; omega) h0
  · intro p hp
    have h0 : p < (rowN A i).length := by rw [h2, Nat.pow_two]; exact hp
    have hn : 0 < A.final.length := hok.lo
    have ha : p / A.final.length < A.final.length := Nat.div_lt_of_lt_mul hp
    have hb : p % A.final.length < A.final.length := Nat.mod_lt _ hn
    have hq1 := hlt _ ha
    have hq2 := hlt _ hb
    have hbig : l.idxOf ((p / A.final.length : Nat) : Int) * A.final.length + l.idxOf ((p % A.final.length : Nat) : Int) < A.final.length ^ 2 := by
      rw [Nat.pow_two]
      have : (l.idxOf ((p / A.final.length : Nat) : Int) + 1) * A.final.length ≤ A.final.length * A.final.length := Nat.mul_le_mul_right _ hq1
      rw [Nat.succ_mul] at this
      omega
    have hd2 := digs_two (m := l.length) (w := l.idxOf ((p / A.final.length : Nat) : Int)) (v := l.idxOf ((p % A.final.length : Nat) : Int)) (by omega) (by omega)
    rw [hlen] at hd2
    rw [hlen, table_at hbig, hd2]
    rw [hgt i _ (succN A i p) ?_ (hsl p h0)]
    rw [List.map_cons, List.map_cons, List.map_nil, phi_idxN (hall _ ha), phi_idxN (hall _ hb)]
    refine at_succ hok hi ?_ h0
    show ((0 * _ + ((p / A.final.length : Nat) : Int)) * (A.final.length : Int) + ((p % A.final.length : Nat) : Int)).toNat = p
    have h5 : (((p / A.final.length) * A.final.length + p % A.final.length : Nat) : Int) = (0 * (A.final.length : Int) + ((p / A.final.length : Nat) : Int)) * (A.final.length : Int) + ((p % A.final.length : Nat) : Int) := by rw [Int.natCast_add, Int.natCast_mul, Int.zero_mul, Int.zero_add]
    rw [← h5, Int.toNat_natCast, Nat.mul_comm]
    exact Nat.div_add_mod p A.final.length
end Go.Proofs.Ytichhfbkhnimmaa

set_option linter.unusedSimpArgs false
set_option linter.unusedVariables false
set_option maxHeartbeats 4000000
set_option maxRecDepth 8000
namespace Go.Proofs.Ytichhfbkhnimmaa
open Go Go.RowKit Go.PP Go.Dm Go.Rt Go.Mn
def mixU (A : Au) (j : Nat) : List Int := (List.range A.final.length).map fun s => if s < j then leastTo A s else toQ A s
theorem mix_len (A : Au) (j : Nat) : (mixU A j).length = A.final.length := by simp [mixU]
theorem mix_get {A : Au} {j s : Nat} (h : s < A.final.length) : (mixU A j)[s]? = some (if s < j then leastTo A s else toQ A s) := by simp [mixU, h]
theorem mix_zero (A : Au) : mixU A 0 = (List.range A.final.length).map (toQ A) := by simp [mixU]
theorem mix_all (A : Au) : mixU A A.final.length = (List.range A.final.length).map (leastTo A) := by
  unfold mixU
  refine List.map_congr_left fun s hs => ?_
  rw [if_pos (List.mem_range.1 hs)]
theorem mix_set {A : Au} {j : Nat} (h : j < A.final.length) : (mixU A j).set j (leastTo A j) = mixU A (j + 1) := by
  refine List.ext_getElem? fun a => ?_
  rw [List.getElem?_set, mix_len]
  by_cases e : j = a
  · subst e
    rw [if_pos rfl, if_pos h, mix_get h, if_pos (by omega)]
  · rw [if_neg e]
    by_cases ha : a < A.final.length
    · rw [mix_get ha, mix_get ha]
      by_cases h1 : a < j
      · rw [if_pos h1, if_pos (by omega)]
      · rw [if_neg h1, if_neg (by omega)]
    · rw [List.getElem?_eq_none (by rw [mix_len]; omega), List.getElem?_eq_none (by rw [mix_len]; omega)]
theorem mix_skip {A : Au} {j : Nat} (h : j < A.final.length) (he : toQ A j = leastTo A j) : mixU A (j + 1) = mixU A j := by
  rw [← mix_set h, ← he]
  refine List.ext_getElem? fun a => ?_
  rw [List.getElem?_set, mix_len]
  by_cases e : j = a
  · subst e
    rw [if_pos rfl, if_pos h, mix_get h, if_neg (by omega)]
  · rw [if_neg e]
theorem least_to {A : Au} (hk : chk A = 0) {j : Nat} (hf : (j : Int) ∈ foundA A) : ∃ t : Nat, toQ A j = (t : Int) ∧ t < (repsA A).length ∧ leastTo A j = (((foundA (quoA A (repsA A))).idxOf (t : Int) : Nat) : Int) := by
  have hr := repsA_ok (chk_ok hk)
  have h1 := idxC_lt hr hf
  refine ⟨idxC A (repsA A) (j : Int), toQ_yes hf, h1, ?_⟩
  unfold leastTo
  rw [if_pos hf, hasI_mem (quo_all hk hr h1)]
theorem least_d (A : Au) (hk : chk A = 0) : DFun Try.prog 59 [auD A] (.tup [auD (leastA A), .sl false 1 A.final.length (((List.range A.final.length).map (leastTo A)).map fun x => D.flat (.int .i64 x))]) := by
  have hok := chk_ok hk
  have hr := repsA_ok hok
  have hq := quotient_d A hk
  have hqk := quo_chk hk hr
  have hqo := chk_ok hqk
  have hql : (quoA A (repsA A)).final.length = (repsA A).length := quo_len
  have hall : ∀ x : Nat, x < (quoA A (repsA A)).final.length → (x : Int) ∈ foundA (quoA A (repsA A)) := fun x hx => quo_all hk hr (by rw [hql] at hx; exact hx)
  have hft := (found_perm hk hr)
  have hfl : (foundA (quoA A (repsA A))).length = (quoA A (repsA A)).final.length := hft.len
  have htr := trim_d (quoA A (repsA A)) (few_of hqo)
  rw [trimE_ok hqk] at htr
  have htk : chk (keptA (quoA A (repsA A)) (foundA (quoA A (repsA A)))) = 0 := least_chk hk
  have hfo := follow_d (quoA A (repsA A)) (keptA (quoA A (repsA A)) (foundA (quoA A (repsA A)))) (fun x => (foundA (quoA A (repsA A))).idxOf (x : Int)) hqo (chk_ok htk) (iso_kept hqo hall hfl) (by rw [kept_len, hfl]) hall
  have hle : leastA A = keptA (quoA A (repsA A)) (foundA (quoA A (repsA A))) := rfl
  rw [hle]
  have hnn := hok.hi
  have hmm := hr.len hok
  have hlt := fun (j : Nat) (hf : (j : Int) ∈ foundA A) => least_to hk hf
  have hno : ∀ j : Nat, (j : Int) ∉ foundA A → toQ A j = -1 ∧ leastTo A j = -1 := fun j h => ⟨toQ_no h, by unfold leastTo; rw [if_neg h]⟩
  have hTU : ∀ t : Nat, t < (repsA A).length → partD false 1 (t * 1) ((List.range (repsA A).length).map fun x => D.flat (.int .i64 (((foundA (quoA A (repsA A))).idxOf ((x : Nat) : Int) : Nat) : Int))) = some (.flat (.int .i64 (((foundA (quoA A (repsA A))).idxOf (t : Int) : Nat) : Int))) := fun t ht => by
    have h := part_i (l := (List.range (repsA A).length).map fun x : Nat => (((foundA (quoA A (repsA A))).idxOf ((x : Nat) : Int) : Nat) : Int)) (i := t) (x := (((foundA (quoA A (repsA A))).idxOf (t : Int) : Nat) : Int)) (by simp [ht])
    rw [List.map_map] at h
    exact h
  rw [hql] at hfo
  have hTUp : persL ((List.range (repsA A).length).map fun x => D.flat (.int .i64 (((foundA (quoA A (repsA A))).idxOf ((x : Nat) : Int) : Nat) : Int))) = true := persL_map (fun _ => rfl) _
  have hpI := fun U : List Int => pers_i U
  have hgetm := fun (j : Nat) (h : j < A.final.length) => part_i (mix_get (A := A) (j := j) (s := j) h)
  have hset := fun (j : Nat) (h : j < A.final.length) => mix_set (A := A) (j := j) h
  have hskip := fun (j : Nat) (h : j < A.final.length) (e : toQ A j = leastTo A j) => mix_skip h e
  rw [← mix_zero] at hq
  rw [← mix_all]
  have hml := fun j => mix_len A j
  have q1 := pers_i A.ranks
  have q2 := pers_b A.final
  have q3 := pers_r A.to
  have hspl : ∀ j, j < A.final.length → List.take (j * 1) ((mixU A j).map fun x => D.flat (.int .i64 x)) ++ [D.flat (.int .i64 (leastTo A j))] ++ List.drop (j * 1 + 1) ((mixU A j).map fun x => D.flat (.int .i64 x)) = ((mixU A (j + 1)).map fun x => D.flat (.int .i64 x)) := fun j hj => by
    have h1 := splice_set (x := D.flat (.int .i64 (leastTo A j))) (show j < ((mixU A j).map fun x => D.flat (.int .i64 x)).length by rw [List.length_map, mix_len]; exact hj)
    unfold spliceD at h1
    rw [Nat.mul_one, ← mix_set hj, List.map_set]
    exact h1
  have hmll : ∀ j, ((mixU A j).map fun x => D.flat (.int .i64 x)).length = A.final.length := fun j => by rw [List.length_map, mix_len]
  have q4 := pers_i (quoA A (repsA A)).ranks
  have q5 := pers_b (quoA A (repsA A)).final
  have q6 := pers_r (quoA A (repsA A)).to
  have k1 := pers_i (keptA (quoA A (repsA A)) (foundA (quoA A (repsA A)))).ranks
  have k2 := pers_b (keptA (quoA A (repsA A)) (foundA (quoA A (repsA A)))).final
  have k3 := pers_r (keptA (quoA A (repsA A)) (foundA (quoA A (repsA A)))).to
  rw [auD_eq A] at *
  rw [auD_eq (quoA A (repsA A))] at hq htr hfo
  rw [auD_eq (keptA (quoA A (repsA A)) (foundA (quoA A (repsA A))))] at htr hfo ⊢
  generalize ((keptA (quoA A (repsA A)) (foundA (quoA A (repsA A)))).ranks.map fun x => D.flat (.int .i64 x)) = C1 at *
  generalize ((keptA (quoA A (repsA A)) (foundA (quoA A (repsA A)))).final.map fun x => D.flat (.bool x)) = C2 at *
  generalize rowsL (keptA (quoA A (repsA A)) (foundA (quoA A (repsA A)))).to = C3 at *
  generalize (keptA (quoA A (repsA A)) (foundA (quoA A (repsA A)))).ranks.length = c1 at *
  generalize (keptA (quoA A (repsA A)) (foundA (quoA A (repsA A)))).final.length = c2 at *
  generalize (keptA (quoA A (repsA A)) (foundA (quoA A (repsA A)))).to.length = c3 at *
  generalize ((quoA A (repsA A)).ranks.map fun x => D.flat (.int .i64 x)) = G1 at *
  generalize ((quoA A (repsA A)).final.map fun x => D.flat (.bool x)) = G2 at *
  generalize rowsL (quoA A (repsA A)).to = G3 at *
  generalize (quoA A (repsA A)).ranks.length = g1 at *
  generalize (quoA A (repsA A)).final.length = g2 at *
  generalize (quoA A (repsA A)).to.length = g3 at *
  generalize hTUe : ((List.range (repsA A).length).map fun x => D.flat (.int .i64 (((foundA (quoA A (repsA A))).idxOf ((x : Nat) : Int) : Nat) : Int))) = TU at *
  generalize (repsA A).length = m at *
  generalize (A.ranks.map fun x => D.flat (.int .i64 x)) = LR at *
  generalize (A.final.map fun x => D.flat (.bool x)) = LB at *
  generalize rowsL A.to = LT at *
  generalize hnA : A.final.length = n at *
  have p00 := hpI (mixU A 0)
  generalize hM0 : ((mixU A 0).map fun x => D.flat (.int .i64 x)) = M0 at *
  refine DFun.enterA Try.func59 Try.ntmps59 ?_
  refine DW.walk ?_
  refine DW.loopA (fun j : Nat => ⟨[(2, .ref 2 0), (5, .own 38 n), (6, .ptr [.sl false 1 c1 C1, .sl false 1 c2 C2, .sl false 1 c3 C3] 0), (8, .sl false 1 m TU), (24, .own 38 n), (25, .flat (.int .i64 ((n : Nat) : Int))), (26, .flat (.int .i64 ((j : Nat) : Int)))], [(2, some (.box [.flat (.slice none 0 0), .flat (.slice none 0 0), .flat (.slice none 0 0)])), (38, some (.row 3 1 n ((mixU A j).map fun x => D.flat (.int .i64 x))))]⟩) (fun j => j ≤ n) (fun j => n - j) 0 ?_ (Nat.zero_le _) (by show Sub _ _ ⟨[(2, .ref 2 0), (5, .own 38 n), (6, .ptr [.sl false 1 c1 C1, .sl false 1 c2 C2, .sl false 1 c3 C3] 0), (8, .sl false 1 m TU), (24, .own 38 n), (25, .flat (.int .i64 ((n : Nat) : Int))), (26, .flat (.int .i64 ((0 : Nat) : Int)))], [(2, some (.box [.flat (.slice none 0 0), .flat (.slice none 0 0), .flat (.slice none 0 0)])), (38, some (.row 3 1 n ((mixU A 0).map fun x => D.flat (.int .i64 x))))]⟩; rw [hM0]; exact Sub.auto)
  intro j hj
  rcases Nat.lt_or_ge j n with hjl | hjg
  · have hg := hgetm j hjl
    rw [if_neg (by omega)] at hg
    have p0 := hpI (mixU A j)
    have p1 := hpI (mixU A (j + 1))
    have hsp := hspl j hjl
    have hl0 := hmll j
    by_cases hf : (j : Int) ∈ foundA A
    · obtain ⟨t, t1, t2, t3⟩ := hlt j hf
      have hv := hTU t t2
      rw [t1] at hg
      rw [t3] at hsp
      generalize (((foundA (quoA A (repsA A))).idxOf (t : Int) : Nat) : Int) = v at *
      generalize hM1 : ((mixU A (j + 1)).map fun x => D.flat (.int .i64 x)) = M1 at *
      generalize ((mixU A j).map fun x => D.flat (.int .i64 x)) = MJ at *
      clear hq htr hfo hlt hno hTU hpI hgetm hset hskip hspl hmll hall hft hfl hTUe
      refine DW.walk ?_
      rw [hsp]
      exact ⟨j + 1, by omega, by omega, by rw [hM1]; exact Sub.auto⟩
    · obtain ⟨t1, t2⟩ := hno j hf
      have hs := hskip j hjl (t1.trans t2.symm)
      rw [t1] at hg
      generalize hM1 : ((mixU A j).map fun x => D.flat (.int .i64 x)) = M1 at *
      clear hq htr hfo hlt hno hTU hpI hgetm hset hskip hspl hmll hall hft hfl hTUe
      refine DW.walk ?_
      exact ⟨j + 1, by omega, by omega, by rw [hs, hM1]; exact Sub.auto⟩
  · obtain rfl : n = j := by omega
    have p0 := hpI (mixU A n)
    generalize ((mixU A n).map fun x => D.flat (.int .i64 x)) = MJ at *
    clear hq htr hfo hlt hno hTU hpI hgetm hset hskip hspl hmll hall hft hfl hTUe
    refine DW.walk ?_
    exact ⟨.inr rfl, ResOk.cellTmpA [(38, some (.row 3 1 n MJ))] rfl rfl rfl TyI.ag TyI.sz rfl ⟨rfl, trivial⟩ (VwL.pers (by simp only [persL, pers, k1, k2, k3, Bool.and_self])) (Le.refl _) (Vw.own (.head _) (VwL.pers p0))⟩
end Go.Proofs.Ytichhfbkhnimmaa

set_option linter.unusedSimpArgs false
set_option linter.unusedVariables false
set_option maxHeartbeats 4000000
set_option maxRecDepth 8000
namespace Go.Proofs.Ytichhfbkhnimmaa
open Go Go.RowKit Go.PP Go.Dm Go.Rt Go.Mn
theorem minimize_ok (A : Au) (hk : chk A = 0) : DFun Try.prog 24 [auD A] (.tup [auD (leastA A), .sl false 1 A.final.length (((List.range A.final.length).map (leastTo A)).map fun x => D.flat (.int .i64 x)), .flat (.int .i64 0)]) := by
  have hc := check_d A (few_of (chk_ok hk))
  rw [hk] at hc
  have hl := least_d A hk
  have hp := pers_i ((List.range A.final.length).map (leastTo A))
  generalize (((List.range A.final.length).map (leastTo A)).map fun x => D.flat (.int .i64 x)) = TO at *
  have q1 := pers_i A.ranks
  have q2 := pers_b A.final
  have q3 := pers_r A.to
  rw [auD_eq A] at hc hl ⊢
  generalize (A.ranks.map fun x => D.flat (.int .i64 x)) = LR at *
  generalize (A.final.map fun x => D.flat (.bool x)) = LB at *
  generalize rowsL A.to = LT at *
  generalize A.ranks.length = lr at *
  generalize A.final.length = lb at *
  generalize A.to.length = lt at *
  have k1 := pers_i (leastA A).ranks
  have k2 := pers_b (leastA A).final
  have k3 := pers_r (leastA A).to
  rw [auD_eq (leastA A)] at hl ⊢
  generalize ((leastA A).ranks.map fun x => D.flat (.int .i64 x)) = MR at *
  generalize ((leastA A).final.map fun x => D.flat (.bool x)) = MB at *
  generalize rowsL (leastA A).to = MT at *
  generalize (leastA A).ranks.length = mr at *
  generalize (leastA A).final.length = mb at *
  generalize (leastA A).to.length = mt at *
  refine DFun.enterA Try.func24 Try.ntmps24 ?_
  refine DW.walk ?_
  exact ⟨.inr rfl, ResOk.cellTmp2 [] rfl rfl rfl TyI.ag TyI.sz rfl rfl rfl trivial (Vw.agg (VwL.pers (show persL [.sl false 1 mr MR, .sl false 1 mb MB, .sl false 1 mt MT] = true from (by simp only [persL, pers, k1, k2, k3, Bool.and_self])))) (Vw.pers rfl) (Vw.pers rfl)⟩
theorem minimize_bad (A : Au) (hfew : Few A) (hk : chk A ≠ 0) : DFun Try.prog 24 [auD A] (.tup [.agg [.sl false 1 0 [], .sl false 1 0 [], .sl false 1 0 []], .sl false 1 0 [], .flat (.int .i64 (((chk A) : Nat) : Int))]) := by
  have hc := check_d A hfew
  have hne : ((chk A : Nat) : Int) ≠ 0 := by omega
  generalize chk A = ck at *
  have q1 := pers_i A.ranks
  have q2 := pers_b A.final
  have q3 := pers_r A.to
  rw [auD_eq A] at hc ⊢
  generalize (A.ranks.map fun x => D.flat (.int .i64 x)) = LR at *
  generalize (A.final.map fun x => D.flat (.bool x)) = LB at *
  generalize rowsL A.to = LT at *
  generalize A.ranks.length = lr at *
  generalize A.final.length = lb at *
  generalize A.to.length = lt at *
  refine DFun.enterA Try.func24 Try.ntmps24 ?_
  refine DW.walk ?_
  exact ⟨.inr rfl, ResOk.cellTmp2 [] rfl rfl rfl TyI.ag TyI.sz rfl rfl rfl trivial (Vw.agg (.cons (Vw.p rfl Le.empty) (.cons (Vw.p rfl Le.empty) (.cons (Vw.p rfl Le.empty) .nil)))) (Vw.p rfl Le.empty) (Vw.pers rfl)⟩
theorem equiv_a (A B : Au) (hA : Few A) (hk : chk A ≠ 0) : DFun Try.prog 30 [auD A, auD B] (.tup [.flat (.bool false), .flat (.int .i64 (((chk A) : Nat) : Int))]) := by
  have hc := check_d A hA
  have hne : ((chk A : Nat) : Int) ≠ 0 := by omega
  generalize chk A = ck at *
  have q1 := pers_i A.ranks
  have q2 := pers_b A.final
  have q3 := pers_r A.to
  rw [auD_eq A] at hc ⊢
  generalize (A.ranks.map fun x => D.flat (.int .i64 x)) = LR at *
  generalize (A.final.map fun x => D.flat (.bool x)) = LB at *
  generalize rowsL A.to = LT at *
  generalize A.ranks.length = lr at *
  generalize A.final.length = lb at *
  generalize A.to.length = lt at *
  have k1 := pers_i B.ranks
  have k2 := pers_b B.final
  have k3 := pers_r B.to
  rw [auD_eq B] at ⊢
  generalize (B.ranks.map fun x => D.flat (.int .i64 x)) = MR at *
  generalize (B.final.map fun x => D.flat (.bool x)) = MB at *
  generalize rowsL B.to = MT at *
  generalize B.ranks.length = mr at *
  generalize B.final.length = mb at *
  generalize B.to.length = mt at *
  have h0 : partD true 3 (0 * 3) [.sl false 1 lr LR, .sl false 1 lb LB, .sl false 1 lt LT, .sl false 1 mr MR, .sl false 1 mb MB, .sl false 1 mt MT] = some (.agg [.sl false 1 lr LR, .sl false 1 lb LB, .sl false 1 lt LT]) := rfl
  have h1 : partD true 3 (1 * 3) [.sl false 1 lr LR, .sl false 1 lb LB, .sl false 1 lt LT, .sl false 1 mr MR, .sl false 1 mb MB, .sl false 1 mt MT] = some (.agg [.sl false 1 mr MR, .sl false 1 mb MB, .sl false 1 mt MT]) := rfl
  refine DFun.enterA Try.func30 Try.ntmps30 ?_
  refine DW.walk ?_
  refine DW.loopA (fun j : Nat => ⟨[(2, .ref 2 0), (3, .ref 3 0), (15, .sl true 3 2 [.sl false 1 lr LR, .sl false 1 lb LB, .sl false 1 lt LT, .sl false 1 mr MR, .sl false 1 mb MB, .sl false 1 mt MT]), (16, .flat (.int .i64 ((2 : Nat) : Int))), (17, .flat (.int .i64 ((j : Nat) : Int)))], [(2, some (.box [.sl false 1 lr LR, .sl false 1 lb LB, .sl false 1 lt LT])), (3, some (.box [.sl false 1 mr MR, .sl false 1 mb MB, .sl false 1 mt MT]))]⟩) (fun j => j = 0) (fun j => j) 0 ?_ rfl
  rintro j rfl
  refine DW.walk ?_
  exact ⟨.inr rfl, ResOk.two [] rfl rfl rfl trivial (Vw.pers rfl) (Vw.pers rfl)⟩
theorem equiv_b (A B : Au) (hA : Few A) (hB : Few B) (hk : chk A = 0) (hk2 : chk B ≠ 0) : DFun Try.prog 30 [auD A, auD B] (.tup [.flat (.bool false), .flat (.int .i64 (((chk B) : Nat) : Int))]) := by
  have hc := check_d A hA
  have hd := check_d B hB
  rw [hk] at hc
  have hne : ((chk B : Nat) : Int) ≠ 0 := by omega
  generalize chk B = ck at *
  have q1 := pers_i A.ranks
  have q2 := pers_b A.final
  have q3 := pers_r A.to
  rw [auD_eq A] at hc ⊢
  generalize (A.ranks.map fun x => D.flat (.int .i64 x)) = LR at *
  generalize (A.final.map fun x => D.flat (.bool x)) = LB at *
  generalize rowsL A.to = LT at *
  generalize A.ranks.length = lr at *
  generalize A.final.length = lb at *
  generalize A.to.length = lt at *
  have k1 := pers_i B.ranks
  have k2 := pers_b B.final
  have k3 := pers_r B.to
  rw [auD_eq B] at hd ⊢
  generalize (B.ranks.map fun x => D.flat (.int .i64 x)) = MR at *
  generalize (B.final.map fun x => D.flat (.bool x)) = MB at *
  generalize rowsL B.to = MT at *
  generalize B.ranks.length = mr at *
  generalize B.final.length = mb at *
  generalize B.to.length = mt at *
  have h0 : partD true 3 (0 * 3) [.sl false 1 lr LR, .sl false 1 lb LB, .sl false 1 lt LT, .sl false 1 mr MR, .sl false 1 mb MB, .sl false 1 mt MT] = some (.agg [.sl false 1 lr LR, .sl false 1 lb LB, .sl false 1 lt LT]) := rfl
  have h1 : partD true 3 (1 * 3) [.sl false 1 lr LR, .sl false 1 lb LB, .sl false 1 lt LT, .sl false 1 mr MR, .sl false 1 mb MB, .sl false 1 mt MT] = some (.agg [.sl false 1 mr MR, .sl false 1 mb MB, .sl false 1 mt MT]) := rfl
  refine DFun.enterA Try.func30 Try.ntmps30 ?_
  refine DW.walk ?_
  refine DW.loopA (fun j : Nat => ⟨[(2, .ref 2 0), (3, .ref 3 0), (15, .sl true 3 2 [.sl false 1 lr LR, .sl false 1 lb LB, .sl false 1 lt LT, .sl false 1 mr MR, .sl false 1 mb MB, .sl false 1 mt MT]), (16, .flat (.int .i64 ((2 : Nat) : Int))), (17, .flat (.int .i64 ((j : Nat) : Int)))], [(2, some (.box [.sl false 1 lr LR, .sl false 1 lb LB, .sl false 1 lt LT])), (3, some (.box [.sl false 1 mr MR, .sl false 1 mb MB, .sl false 1 mt MT]))]⟩) (fun j => j ≤ 1) (fun j => 2 - j) 0 ?_ (by omega)
  intro j hj
  rcases (show j = 0 ∨ j = 1 by omega) with rfl | rfl
  · refine DW.walk ?_
    exact ⟨1, by omega, by omega, Sub.auto⟩
  · refine DW.walk ?_
    exact ⟨.inr rfl, ResOk.two [] rfl rfl rfl trivial (Vw.pers rfl) (Vw.pers rfl)⟩
theorem equiv_c (A B : Au) (hk : chk A = 0) (hk2 : chk B = 0) (hr : A.ranks ≠ B.ranks) : DFun Try.prog 30 [auD A, auD B] (.tup [.flat (.bool false), .flat (.int .i64 11)]) := by
  have hc := check_d A (few_of (chk_ok hk))
  have hd := check_d B (few_of (chk_ok hk2))
  rw [hk] at hc
  rw [hk2] at hd
  have he := eq63_d A.ranks B.ranks (by have := (chk_ok hk).alpha.hi; omega) (by have := (chk_ok hk2).alpha.hi; omega)
  rw [decide_eq_false hr] at he
  clear hr
  have q1 := pers_i A.ranks
  have q2 := pers_b A.final
  have q3 := pers_r A.to
  rw [auD_eq A] at hc ⊢
  generalize (A.ranks.map fun x => D.flat (.int .i64 x)) = LR at *
  generalize (A.final.map fun x => D.flat (.bool x)) = LB at *
  generalize rowsL A.to = LT at *
  generalize A.ranks.length = lr at *
  generalize A.final.length = lb at *
  generalize A.to.length = lt at *
  have k1 := pers_i B.ranks
  have k2 := pers_b B.final
  have k3 := pers_r B.to
  rw [auD_eq B] at hd ⊢
  generalize (B.ranks.map fun x => D.flat (.int .i64 x)) = MR at *
  generalize (B.final.map fun x => D.flat (.bool x)) = MB at *
  generalize rowsL B.to = MT at *
  generalize B.ranks.length = mr at *
  generalize B.final.length = mb at *
  generalize B.to.length = mt at *
  have h0 : partD true 3 (0 * 3) [.sl false 1 lr LR, .sl false 1 lb LB, .sl false 1 lt LT, .sl false 1 mr MR, .sl false 1 mb MB, .sl false 1 mt MT] = some (.agg [.sl false 1 lr LR, .sl false 1 lb LB, .sl false 1 lt LT]) := rfl
  have h1 : partD true 3 (1 * 3) [.sl false 1 lr LR, .sl false 1 lb LB, .sl false 1 lt LT, .sl false 1 mr MR, .sl false 1 mb MB, .sl false 1 mt MT] = some (.agg [.sl false 1 mr MR, .sl false 1 mb MB, .sl false 1 mt MT]) := rfl
  refine DFun.enterA Try.func30 Try.ntmps30 ?_
  refine DW.walk ?_
  refine DW.loopA (fun j : Nat => ⟨[(2, .ref 2 0), (3, .ref 3 0), (15, .sl true 3 2 [.sl false 1 lr LR, .sl false 1 lb LB, .sl false 1 lt LT, .sl false 1 mr MR, .sl false 1 mb MB, .sl false 1 mt MT]), (16, .flat (.int .i64 ((2 : Nat) : Int))), (17, .flat (.int .i64 ((j : Nat) : Int)))], [(2, some (.box [.sl false 1 lr LR, .sl false 1 lb LB, .sl false 1 lt LT])), (3, some (.box [.sl false 1 mr MR, .sl false 1 mb MB, .sl false 1 mt MT]))]⟩) (fun j => j ≤ 2) (fun j => 2 - j) 0 ?_ (by omega)
  intro j hj
  rcases (show j = 0 ∨ j = 1 ∨ j = 2 by omega) with rfl | rfl | rfl
  · refine DW.walk ?_
    exact ⟨1, by omega, by omega, Sub.auto⟩
  · refine DW.walk ?_
    exact ⟨2, by omega, by omega, Sub.auto⟩
  · refine DW.walk ?_
    exact ⟨.inr rfl, ResOk.two [] rfl rfl rfl trivial (Vw.pers rfl) (Vw.pers rfl)⟩
theorem equiv_d (A B : Au) (hk : chk A = 0) (hk2 : chk B = 0) (hr : A.ranks = B.ranks) : DFun Try.prog 30 [auD A, auD B] (.tup [.flat (.bool (eqB (leastA A) (leastA B))), .flat (.int .i64 0)]) := by
  have hc := check_d A (few_of (chk_ok hk))
  have hd := check_d B (few_of (chk_ok hk2))
  rw [hk] at hc
  rw [hk2] at hd
  have he := eq63_d A.ranks B.ranks (by have := (chk_ok hk).alpha.hi; omega) (by have := (chk_ok hk2).alpha.hi; omega)
  rw [decide_eq_true hr] at he
  clear hr
  have hl := least_d A hk
  have hm := least_d B hk2
  have hx := equal_d (leastA A) (leastA B) (few_of (chk_ok (least_chk hk))) (few_of (chk_ok (least_chk hk2)))
  generalize eqB (leastA A) (leastA B) = eb at *
  have hp := pers_i ((List.range A.final.length).map (leastTo A))
  have hp2 := pers_i ((List.range B.final.length).map (leastTo B))
  generalize (((List.range A.final.length).map (leastTo A)).map fun x => D.flat (.int .i64 x)) = TA at *
  generalize (((List.range B.final.length).map (leastTo B)).map fun x => D.flat (.int .i64 x)) = TB at *
  have q1 := pers_i A.ranks
  have q2 := pers_b A.final
  have q3 := pers_r A.to
  rw [auD_eq A] at hc hl ⊢
  generalize (A.ranks.map fun x => D.flat (.int .i64 x)) = LR at *
  generalize (A.final.map fun x => D.flat (.bool x)) = LB at *
  generalize rowsL A.to = LT at *
  generalize A.ranks.length = lr at *
  generalize A.final.length = lb at *
  generalize A.to.length = lt at *
  have k1 := pers_i B.ranks
  have k2 := pers_b B.final
  have k3 := pers_r B.to
  rw [auD_eq B] at hd hm ⊢
  generalize (B.ranks.map fun x => D.flat (.int .i64 x)) = MR at *
  generalize (B.final.map fun x => D.flat (.bool x)) = MB at *
  generalize rowsL B.to = MT at *
  generalize B.ranks.length = mr at *
  generalize B.final.length = mb at *
  generalize B.to.length = mt at *
  have u1 := pers_i (leastA A).ranks
  have u2 := pers_b (leastA A).final
  have u3 := pers_r (leastA A).to
  rw [auD_eq (leastA A)] at hl hx
  generalize ((leastA A).ranks.map fun x => D.flat (.int .i64 x)) = UR at *
  generalize ((leastA A).final.map fun x => D.flat (.bool x)) = UB at *
  generalize rowsL (leastA A).to = UT at *
  generalize (leastA A).ranks.length = ur at *
  generalize (leastA A).final.length = ub at *
  generalize (leastA A).to.length = ut at *
  have v1 := pers_i (leastA B).ranks
  have v2 := pers_b (leastA B).final
  have v3 := pers_r (leastA B).to
  rw [auD_eq (leastA B)] at hm hx
  generalize ((leastA B).ranks.map fun x => D.flat (.int .i64 x)) = VR at *
  generalize ((leastA B).final.map fun x => D.flat (.bool x)) = VB at *
  generalize rowsL (leastA B).to = VT at *
  generalize (leastA B).ranks.length = vr at *
  generalize (leastA B).final.length = vb at *
  generalize (leastA B).to.length = vt at *
  have h0 : partD true 3 (0 * 3) [.sl false 1 lr LR, .sl false 1 lb LB, .sl false 1 lt LT, .sl false 1 mr MR, .sl false 1 mb MB, .sl false 1 mt MT] = some (.agg [.sl false 1 lr LR, .sl false 1 lb LB, .sl false 1 lt LT]) := rfl
  have h1 : partD true 3 (1 * 3) [.sl false 1 lr LR, .sl false 1 lb LB, .sl false 1 lt LT, .sl false 1 mr MR, .sl false 1 mb MB, .sl false 1 mt MT] = some (.agg [.sl false 1 mr MR, .sl false 1 mb MB, .sl false 1 mt MT]) := rfl
  refine DFun.enterA Try.func30 Try.ntmps30 ?_
  refine DW.walk ?_
  refine DW.loopA (fun j : Nat => ⟨[(2, .ref 2 0), (3, .ref 3 0), (15, .sl true 3 2 [.sl false 1 lr LR, .sl false 1 lb LB, .sl false 1 lt LT, .sl false 1 mr MR, .sl false 1 mb MB, .sl false 1 mt MT]), (16, .flat (.int .i64 ((2 : Nat) : Int))), (17, .flat (.int .i64 ((j : Nat) : Int)))], [(2, some (.box [.sl false 1 lr LR, .sl false 1 lb LB, .sl false 1 lt LT])), (3, some (.box [.sl false 1 mr MR, .sl false 1 mb MB, .sl false 1 mt MT]))]⟩) (fun j => j ≤ 2) (fun j => 2 - j) 0 ?_ (by omega)
  intro j hj
  rcases (show j = 0 ∨ j = 1 ∨ j = 2 by omega) with rfl | rfl | rfl
  · refine DW.walk ?_
    exact ⟨1, by omega, by omega, Sub.auto⟩
  · refine DW.walk ?_
    exact ⟨2, by omega, by omega, Sub.auto⟩
  · refine DW.walk ?_
    exact ⟨.inr rfl, ResOk.two [] rfl rfl rfl trivial (Vw.pers rfl) (Vw.pers rfl)⟩
end Go.Proofs.Ytichhfbkhnimmaa
