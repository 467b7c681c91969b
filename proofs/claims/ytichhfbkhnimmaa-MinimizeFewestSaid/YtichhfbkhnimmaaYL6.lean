/- The reference: the product of unfit automata. No condition. -/
import Derived.Test.YtichhfbkhnimmaaYPR2c
import Derived.Test.YtichhfbkhnimmaaYPR4
import Derived.Test.YtichhfbkhnimmaaYMJ
import Derived.Test.YtichhfbkhnimmaaYD8
import Derived.Test.YtichhfbkhnimmaaYRF0
import Derived.Test.YtichhfbkhnimmaaYMZ

set_option linter.unusedSimpArgs false
set_option linter.unusedVariables false
set_option maxHeartbeats 4000000
set_option maxRecDepth 8000
namespace Go.Proofs.Ytichhfbkhnimmaa
open Go Go.RowKit Go.PP Go.Dm Go.Rt Go.Mn
theorem pair1_d (A B : Au) (hA : Few A) (hB : Few B) (h1 : chk A ≠ 0) : DFun Try.prog 64 [auD A, auD B, .agg [.flat (.bool false), .flat (.bool true), .flat (.bool true), .flat (.bool false)]] (.tup [auD A00, .flat (.int .i64 (((chk A) : Nat) : Int))]) := by
  have hc := rcheck_d A hA
  have hd := rcheck_d B hB
  have hne : ((chk A : Nat) : Int) ≠ 0 := by omega
  generalize chk A = ck at *
  have q1 := pers_i A.ranks
  have q2 := pers_b A.final
  have q3 := pers_r A.to
  rw [auD_eq A] at hc ⊢
  generalize (A.ranks.map fun x => D.flat (.int .i64 x)) = LR at *
  generalize (A.final.map fun x => D.flat (.bool x)) = LB at *
  generalize rowsL A.to = LT at *
  generalize A.ranks.length = lr at *
  generalize A.final.length = lb at *
  generalize A.to.length = lt at *
  have k1 := pers_i B.ranks
  have k2 := pers_b B.final
  have k3 := pers_r B.to
  rw [auD_eq B] at hd ⊢
  generalize (B.ranks.map fun x => D.flat (.int .i64 x)) = MR at *
  generalize (B.final.map fun x => D.flat (.bool x)) = MB at *
  generalize rowsL B.to = MT at *
  generalize B.ranks.length = mr at *
  generalize B.final.length = mb at *
  generalize B.to.length = mt at *
  rw [show auD A00 = .agg [.sl false 1 0 [], .sl false 1 0 [], .sl false 1 0 []] from rfl]
  refine DFun.enterA Try.func64 Try.ntmps64 ?_
  refine DW.walk ?_
  exact ⟨.inr rfl, ResOk.cellTmpA [] rfl rfl rfl TyI.ag TyI.sz rfl trivial (.cons (Vw.p rfl Le.empty) (.cons (Vw.p rfl Le.empty) (.cons (Vw.p rfl Le.empty) .nil))) (Le.refl _) (Vw.pers rfl)⟩
theorem pair2_d (A B : Au) (hA : Few A) (hB : Few B) (h1 : chk A = 0) (h2 : chk B ≠ 0) : DFun Try.prog 64 [auD A, auD B, .agg [.flat (.bool false), .flat (.bool true), .flat (.bool true), .flat (.bool false)]] (.tup [auD A00, .flat (.int .i64 (((chk B) : Nat) : Int))]) := by
  have hc := rcheck_d A hA
  have hd := rcheck_d B hB
  rw [h1] at hc
  have hne : ((chk B : Nat) : Int) ≠ 0 := by omega
  generalize chk B = ck at *
  have q1 := pers_i A.ranks
  have q2 := pers_b A.final
  have q3 := pers_r A.to
  rw [auD_eq A] at hc ⊢
  generalize (A.ranks.map fun x => D.flat (.int .i64 x)) = LR at *
  generalize (A.final.map fun x => D.flat (.bool x)) = LB at *
  generalize rowsL A.to = LT at *
  generalize A.ranks.length = lr at *
  generalize A.final.length = lb at *
  generalize A.to.length = lt at *
  have k1 := pers_i B.ranks
  have k2 := pers_b B.final
  have k3 := pers_r B.to
  rw [auD_eq B] at hd ⊢
  generalize (B.ranks.map fun x => D.flat (.int .i64 x)) = MR at *
  generalize (B.final.map fun x => D.flat (.bool x)) = MB at *
  generalize rowsL B.to = MT at *
  generalize B.ranks.length = mr at *
  generalize B.final.length = mb at *
  generalize B.to.length = mt at *
  rw [show auD A00 = .agg [.sl false 1 0 [], .sl false 1 0 [], .sl false 1 0 []] from rfl]
  refine DFun.enterA Try.func64 Try.ntmps64 ?_
  refine DW.walk ?_
  exact ⟨.inr rfl, ResOk.cellTmpA [] rfl rfl rfl TyI.ag TyI.sz rfl trivial (.cons (Vw.p rfl Le.empty) (.cons (Vw.p rfl Le.empty) (.cons (Vw.p rfl Le.empty) .nil))) (Le.refl _) (Vw.pers rfl)⟩
theorem pair3_d (A B : Au) (hA : Few A) (hB : Few B) (h1 : chk A = 0) (h2 : chk B = 0) (hr : A.ranks ≠ B.ranks) : DFun Try.prog 64 [auD A, auD B, .agg [.flat (.bool false), .flat (.bool true), .flat (.bool true), .flat (.bool false)]] (.tup [auD A00, .flat (.int .i64 11)]) := by
  have hc := rcheck_d A hA
  have hd := rcheck_d B hB
  rw [h1] at hc
  rw [h2] at hd
  have heq := eq62_d A.ranks B.ranks (Nat.le_trans hA.r (by decide)) (Nat.le_trans hB.r (by decide))
  rw [decide_eq_false hr] at heq
  have q1 := pers_i A.ranks
  have q2 := pers_b A.final
  have q3 := pers_r A.to
  rw [auD_eq A] at hc ⊢
  generalize (A.ranks.map fun x => D.flat (.int .i64 x)) = LR at *
  generalize (A.final.map fun x => D.flat (.bool x)) = LB at *
  generalize rowsL A.to = LT at *
  generalize A.ranks.length = lr at *
  generalize A.final.length = lb at *
  generalize A.to.length = lt at *
  have k1 := pers_i B.ranks
  have k2 := pers_b B.final
  have k3 := pers_r B.to
  rw [auD_eq B] at hd ⊢
  generalize (B.ranks.map fun x => D.flat (.int .i64 x)) = MR at *
  generalize (B.final.map fun x => D.flat (.bool x)) = MB at *
  generalize rowsL B.to = MT at *
  generalize B.ranks.length = mr at *
  generalize B.final.length = mb at *
  generalize B.to.length = mt at *
  rw [show auD A00 = .agg [.sl false 1 0 [], .sl false 1 0 [], .sl false 1 0 []] from rfl]
  refine DFun.enterA Try.func64 Try.ntmps64 ?_
  refine DW.walk ?_
  exact ⟨.inr rfl, ResOk.cellTmpA [] rfl rfl rfl TyI.ag TyI.sz rfl trivial (.cons (Vw.p rfl Le.empty) (.cons (Vw.p rfl Le.empty) (.cons (Vw.p rfl Le.empty) .nil))) (Le.refl _) (Vw.pers rfl)⟩
end Go.Proofs.Ytichhfbkhnimmaa

set_option linter.unusedSimpArgs false
set_option linter.unusedVariables false
set_option maxHeartbeats 4000000
set_option maxRecDepth 8000
namespace Go.Proofs.Ytichhfbkhnimmaa
open Go Go.RowKit Go.PP Go.Dm Go.Rt Go.Mn
instance : TyZ Try.prog 118 (.agg #[.bool false, .bool false, .bool false, .bool false]) := ⟨by kernel_rfl⟩
theorem refq_bad (A B : Au) (e : Nat) (he : e ≠ 0) (h : DFun Try.prog 64 [auD A, auD B, .agg [.flat (.bool false), .flat (.bool true), .flat (.bool true), .flat (.bool false)]] (.tup [auD A00, .flat (.int .i64 ((e : Nat) : Int))])) : DFun Try.prog 31 [auD A, auD B] (.tup [.flat (.bool false), .flat (.int .i64 ((e : Nat) : Int))]) := by
  have hne : ((e : Nat) : Int) ≠ 0 := by omega
  rw [show auD A00 = .agg [.sl false 1 0 [], .sl false 1 0 [], .sl false 1 0 []] from rfl] at h
  have q1 := pers_i A.ranks
  have q2 := pers_b A.final
  have q3 := pers_r A.to
  rw [auD_eq A] at h ⊢
  generalize (A.ranks.map fun x => D.flat (.int .i64 x)) = LR at *
  generalize (A.final.map fun x => D.flat (.bool x)) = LB at *
  generalize rowsL A.to = LT at *
  generalize A.ranks.length = lr at *
  generalize A.final.length = lb at *
  generalize A.to.length = lt at *
  have k1 := pers_i B.ranks
  have k2 := pers_b B.final
  have k3 := pers_r B.to
  rw [auD_eq B] at h ⊢
  generalize (B.ranks.map fun x => D.flat (.int .i64 x)) = MR at *
  generalize (B.final.map fun x => D.flat (.bool x)) = MB at *
  generalize rowsL B.to = MT at *
  generalize B.ranks.length = mr at *
  generalize B.final.length = mb at *
  generalize B.to.length = mt at *
  refine DFun.enterA Try.func31 Try.ntmps31 ?_
  refine DW.walk ?_
  exact ⟨.inr rfl, ResOk.two [] rfl rfl rfl trivial (Vw.pers rfl) (Vw.pers rfl)⟩
theorem refq_ok (A B : Au) (hkA : chk A = 0) (hkB : chk B = 0) (hr : A.ranks = B.ranks) (hnm : A.final.length * B.final.length ≤ 512) : DFun Try.prog 31 [auD A, auD B] (.tup [.flat (.bool (eqB (leastA A) (leastA B))), .flat (.int .i64 0)]) := by
  have hp := pairB_d A B (chk_ok hkA) (chk_ok hkB) hkA hkB hr hnm
  have hok := prod_ok (wh := [false, true, true, false]) hkA hkB hr hnm
  have hiff : eqB (leastA A) (leastA B) = true ↔ ∀ x ∈ foundA (prodA A B [false, true, true, false]), finI (prodA A B [false, true, true, false]) x = false := eqB_iff.trans ((least_iff hkA hkB hr).trans (same_iff hkA hkB hr hnm))
  have hf := found60_d (prodA A B [false, true, true, false]) hok
  have hrg := (foundK_ok hok ((prodA A B [false, true, true, false]).final.length + 1)).rng
  have hln := (foundK_ok hok ((prodA A B [false, true, true, false]).final.length + 1)).len
  have hpn := hok.hi
  rw [show foundK (prodA A B [false, true, true, false]) ((prodA A B [false, true, true, false]).final.length + 1) = foundA (prodA A B [false, true, true, false]) from rfl] at hrg hln
  have hpb : ∀ q : Nat, q < (prodA A B [false, true, true, false]).final.length → partD false 1 (q * 1) ((prodA A B [false, true, true, false]).final.map fun x => D.flat (.bool x)) = some (.flat (.bool (finI (prodA A B [false, true, true, false]) ((q : Nat) : Int)))) := fun q h => fin_part (prodA A B [false, true, true, false]).final h
  generalize eqB (leastA A) (leastA B) = eb at *
  clear hkA hkB hr hnm hok
  generalize (prodA A B [false, true, true, false]) = P at *
  have hpi := pers_i (foundA P)
  have hpt : ∀ (i : Nat) (x : Int), (foundA P)[i]? = some x → partD false 1 (i * 1) ((foundA P).map fun x => D.flat (.int .i64 x)) = some (.flat (.int .i64 x)) := fun i x h => part_i h
  generalize ((foundA P).map fun x => D.flat (.int .i64 x)) = FU at *
  generalize foundA P = F at *
  have q1 := pers_i A.ranks
  have q2 := pers_b A.final
  have q3 := pers_r A.to
  rw [auD_eq A] at hp ⊢
  generalize (A.ranks.map fun x => D.flat (.int .i64 x)) = LR at *
  generalize (A.final.map fun x => D.flat (.bool x)) = LB at *
  generalize rowsL A.to = LT at *
  generalize A.ranks.length = lr at *
  generalize A.final.length = lb at *
  generalize A.to.length = lt at *
  have k1 := pers_i B.ranks
  have k2 := pers_b B.final
  have k3 := pers_r B.to
  rw [auD_eq B] at hp ⊢
  generalize (B.ranks.map fun x => D.flat (.int .i64 x)) = MR at *
  generalize (B.final.map fun x => D.flat (.bool x)) = MB at *
  generalize rowsL B.to = MT at *
  generalize B.ranks.length = mr at *
  generalize B.final.length = mb at *
  generalize B.to.length = mt at *
  have p1 := pers_i P.ranks
  have p2 := pers_b P.final
  have p3 := pers_r P.to
  rw [auD_eq P] at hp hf
  generalize (P.ranks.map fun x => D.flat (.int .i64 x)) = PR at *
  generalize (P.final.map fun x => D.flat (.bool x)) = PB at *
  generalize rowsL P.to = PT at *
  generalize P.ranks.length = pr at *
  generalize P.final.length = pb at *
  generalize P.to.length = pt at *
  refine DFun.enterA Try.func31 Try.ntmps31 ?_
  refine DW.walk ?_
  refine DW.loopA (fun i : Nat => ⟨[(6, .ref 6 0), (8, .sl false 1 F.length FU), (9, .flat (.int .i64 ((i : Nat) : Int)))], [(6, some (.box [.sl false 1 pr PR, .sl false 1 pb PB, .sl false 1 pt PT]))]⟩) (fun i => i ≤ F.length ∧ ∀ x ∈ F.take i, finI P x = false) (fun i => F.length - i) 0 ?_ ⟨Nat.zero_le _, by simp⟩
  rintro i ⟨hi, hno⟩
  rcases Nat.lt_or_ge i F.length with hlt | hge
  · obtain ⟨x, hx⟩ : ∃ x, F[i]? = some x := ⟨_, List.getElem?_eq_getElem hlt⟩
    have hxp := hpt i x hx
    obtain ⟨x0, x1⟩ := hrg x (List.mem_of_getElem? hx)
    obtain ⟨q, rfl⟩ := Int.eq_ofNat_of_zero_le x0
    have hq : q < pb := by omega
    have hb := hpb q hq
    have hmem := List.mem_of_getElem? hx
    cases hv : finI P ((q : Nat) : Int) with
    | true =>
      have he : eb = false := by
        cases eb with
        | false => rfl
        | true => have := hiff.1 rfl _ hmem; rw [hv] at this; cases this
      subst he
      rw [hv] at hb
      clear hpt hno hx hpb hrg hiff hp hf
      refine DW.walk ?_
      exact ⟨.inr rfl, ResOk.two [] rfl rfl rfl trivial (Vw.pers rfl) (Vw.pers rfl)⟩
    | false =>
      rw [hv] at hb
      have hno2 : ∀ x ∈ F.take (i + 1), finI P x = false := fun m hm => by
        rw [List.take_add_one, hx] at hm
        rcases List.mem_append.1 hm with hm | hm
        · exact hno m hm
        · simp at hm; subst hm; exact hv
      clear hpt hno hx hpb hrg hiff hp hf
      refine DW.walk ?_
      exact ⟨i + 1, ⟨by omega, hno2⟩, by omega, Sub.auto⟩
  · obtain rfl : i = F.length := by omega
    rw [List.take_length] at hno
    have he : eb = true := hiff.2 hno
    subst he
    clear hpt hno hpb hrg hiff hp hf
    refine DW.walk ?_
    exact ⟨.inr rfl, ResOk.two [] rfl rfl rfl trivial (Vw.pers rfl) (Vw.pers rfl)⟩
end Go.Proofs.Ytichhfbkhnimmaa

set_option linter.unusedSimpArgs false
set_option linter.unusedVariables false
set_option maxHeartbeats 4000000
set_option maxRecDepth 8000
namespace Go.Proofs.Ytichhfbkhnimmaa
open Go Go.RowKit Go.PP Go.Dm Go.Rt Go.Mn
theorem law6_few (A B : Au) (hr : fewB A = false ∨ fewB B = false) : DFun Try.prog 6 [auD A, auD B] (.flat (.bool true)) := by
  have hkn := known_d
  have hfa := few_d A
  have hfb := few_d B
  generalize fewB A = fa at *
  generalize fewB B = fb at *
  have q1 := pers_i A.ranks
  have q2 := pers_b A.final
  have q3 := pers_r A.to
  rw [auD_eq A] at hfa ⊢
  generalize (A.ranks.map fun x => D.flat (.int .i64 x)) = LR at *
  generalize (A.final.map fun x => D.flat (.bool x)) = LB at *
  generalize rowsL A.to = LT at *
  generalize A.ranks.length = lr at *
  generalize A.final.length = lb at *
  generalize A.to.length = lt at *
  have k1 := pers_i B.ranks
  have k2 := pers_b B.final
  have k3 := pers_r B.to
  rw [auD_eq B] at hfb ⊢
  generalize (B.ranks.map fun x => D.flat (.int .i64 x)) = MR at *
  generalize (B.final.map fun x => D.flat (.bool x)) = MB at *
  generalize rowsL B.to = MT at *
  generalize B.ranks.length = mr at *
  generalize B.final.length = mb at *
  generalize B.to.length = mt at *
  cases fa with
  | false =>
    refine DFun.enterA Try.func6 Try.ntmps6 ?_
    refine DW.walk ?_
    exact ⟨.inr rfl, ResOk.one [] rfl rfl trivial (Vw.pers rfl)⟩
  | true =>
    have : fb = false := by rcases hr with h | h; cases h; exact h
    subst this
    refine DFun.enterA Try.func6 Try.ntmps6 ?_
    refine DW.walk ?_
    exact ⟨.inr rfl, ResOk.one [] rfl rfl trivial (Vw.pers rfl)⟩
theorem law6_err (A B : Au) (h1 : fewB A = true) (h2 : fewB B = true) (e : Nat) (he : e ≠ 0) (hq : DFun Try.prog 30 [auD A, auD B] (.tup [.flat (.bool false), .flat (.int .i64 ((e : Nat) : Int))])) (hw : DFun Try.prog 31 [auD A, auD B] (.tup [.flat (.bool false), .flat (.int .i64 ((e : Nat) : Int))])) : DFun Try.prog 6 [auD A, auD B] (.flat (.bool true)) := by
  have hkn := known_d
  have hfr := from_d A
  have hfr2 := from_d B
  have hfa := few_d A
  have hfb := few_d B
  rw [h1] at hfa
  rw [h2] at hfb
  have hne : ((e : Nat) : Int) ≠ 0 := by omega
  have q1 := pers_i A.ranks
  have q2 := pers_b A.final
  have q3 := pers_r A.to
  rw [auD_eq A] at hfa hfr hq hw ⊢
  generalize (A.ranks.map fun x => D.flat (.int .i64 x)) = LR at *
  generalize (A.final.map fun x => D.flat (.bool x)) = LB at *
  generalize rowsL A.to = LT at *
  generalize A.ranks.length = lr at *
  generalize A.final.length = lb at *
  generalize A.to.length = lt at *
  have k1 := pers_i B.ranks
  have k2 := pers_b B.final
  have k3 := pers_r B.to
  rw [auD_eq B] at hfb hfr2 hq hw ⊢
  generalize (B.ranks.map fun x => D.flat (.int .i64 x)) = MR at *
  generalize (B.final.map fun x => D.flat (.bool x)) = MB at *
  generalize rowsL B.to = MT at *
  generalize B.ranks.length = mr at *
  generalize B.final.length = mb at *
  generalize B.to.length = mt at *
  refine DFun.enterA Try.func6 Try.ntmps6 ?_
  refine DW.walk ?_
  exact ⟨.inr rfl, ResOk.one [] rfl rfl trivial (Vw.pers rfl)⟩
theorem law6_ok (A B : Au) (h1 : fewB A = true) (h2 : fewB B = true) (hkA : chk A = 0) (hkB : chk B = 0) (hr : A.ranks = B.ranks) : DFun Try.prog 6 [auD A, auD B] (.flat (.bool true)) := by
  have hkn := known_d
  have hfr := from_d A
  have hfr2 := from_d B
  have hfa := few_d A
  have hfb := few_d B
  rw [h1] at hfa
  rw [h2] at hfb
  have a1 := (of_decide_eq_true h1).1
  have a2 := (of_decide_eq_true h2).1
  have hq := equiv_d A B hkA hkB hr
  have hw := refq_ok A B hkA hkB hr (Nat.le_trans (Nat.mul_le_mul a1 a2) (by decide))
  have m1 := minimize_ok A hkA
  have m2 := minimize_ok B hkB
  have he := equal_d (leastA A) (leastA B) (few_of (chk_ok (least_chk hkA))) (few_of (chk_ok (least_chk hkB)))
  have l1 := least_len hkA
  have l2 : eqB (leastA A) (leastA B) = true → (leastA A).final.length ≤ B.final.length := fun h => by rw [eqB_iff.1 h]; exact least_len hkB
  have t1 := pers_i ((List.range A.final.length).map (leastTo A))
  have t2 := pers_i ((List.range B.final.length).map (leastTo B))
  generalize (((List.range A.final.length).map (leastTo A)).map fun x => D.flat (.int .i64 x)) = T1 at *
  generalize (((List.range B.final.length).map (leastTo B)).map fun x => D.flat (.int .i64 x)) = T2 at *
  generalize eqB (leastA A) (leastA B) = eb at *
  clear h1 h2 hkA hkB hr
  have u1 := pers_i (leastA A).ranks
  have u2 := pers_b (leastA A).final
  have u3 := pers_r (leastA A).to
  rw [auD_eq (leastA A)] at m1 he
  generalize ((leastA A).ranks.map fun x => D.flat (.int .i64 x)) = UR at *
  generalize ((leastA A).final.map fun x => D.flat (.bool x)) = UB at *
  generalize rowsL (leastA A).to = UT at *
  generalize (leastA A).ranks.length = ur at *
  generalize (leastA A).final.length = ub at *
  generalize (leastA A).to.length = ut at *
  have v1 := pers_i (leastA B).ranks
  have v2 := pers_b (leastA B).final
  have v3 := pers_r (leastA B).to
  rw [auD_eq (leastA B)] at m2 he
  generalize ((leastA B).ranks.map fun x => D.flat (.int .i64 x)) = VR at *
  generalize ((leastA B).final.map fun x => D.flat (.bool x)) = VB at *
  generalize rowsL (leastA B).to = VT at *
  generalize (leastA B).ranks.length = vr at *
  generalize (leastA B).final.length = vb at *
  generalize (leastA B).to.length = vt at *
  have q1 := pers_i A.ranks
  have q2 := pers_b A.final
  have q3 := pers_r A.to
  rw [auD_eq A] at hfa hfr hq hw m1 ⊢
  generalize (A.ranks.map fun x => D.flat (.int .i64 x)) = LR at *
  generalize (A.final.map fun x => D.flat (.bool x)) = LB at *
  generalize rowsL A.to = LT at *
  generalize A.ranks.length = lr at *
  generalize A.final.length = lb at *
  generalize A.to.length = lt at *
  have k1 := pers_i B.ranks
  have k2 := pers_b B.final
  have k3 := pers_r B.to
  rw [auD_eq B] at hfb hfr2 hq hw m2 ⊢
  generalize (B.ranks.map fun x => D.flat (.int .i64 x)) = MR at *
  generalize (B.final.map fun x => D.flat (.bool x)) = MB at *
  generalize rowsL B.to = MT at *
  generalize B.ranks.length = mr at *
  generalize B.final.length = mb at *
  generalize B.to.length = mt at *
  cases eb with
  | false =>
    clear l2
    refine DFun.enterA Try.func6 Try.ntmps6 ?_
    refine DW.walk ?_
    exact ⟨.inr rfl, ResOk.one [] rfl rfl trivial (Vw.pers rfl)⟩
  | true =>
    have l3 := l2 rfl
    refine DFun.enterA Try.func6 Try.ntmps6 ?_
    refine DW.walk ?_
    exact ⟨.inr rfl, ResOk.one [] rfl rfl trivial (Vw.pers rfl)⟩
theorem law6_all (A B : Au) : DFun Try.prog 6 [auD A, auD B] (.flat (.bool true)) := by
  cases h1 : fewB A with
  | false => exact law6_few A B (.inl h1)
  | true =>
    cases h2 : fewB B with
    | false => exact law6_few A B (.inr h2)
    | true =>
      by_cases hkA : chk A = 0
      · by_cases hkB : chk B = 0
        · by_cases hr : A.ranks = B.ranks
          · exact law6_ok A B h1 h2 hkA hkB hr
          · exact law6_err A B h1 h2 11 (by decide) (equiv_c A B hkA hkB hr) (refq_bad A B 11 (by decide) (pair3_d A B (fewB_few h1) (fewB_few h2) hkA hkB hr))
        · exact law6_err A B h1 h2 _ hkB (equiv_b A B (fewB_few h1) (fewB_few h2) hkA hkB) (refq_bad A B _ hkB (pair2_d A B (fewB_few h1) (fewB_few h2) hkA hkB))
      · exact law6_err A B h1 h2 _ hkA (equiv_a A B (fewB_few h1) hkA) (refq_bad A B _ hkA (pair1_d A B (fewB_few h1) (fewB_few h2) hkA))
end Go.Proofs.Ytichhfbkhnimmaa
