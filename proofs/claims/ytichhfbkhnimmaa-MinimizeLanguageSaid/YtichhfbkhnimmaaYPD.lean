/- Contracts over data: Permute. No condition. -/
import Derived.Test.YtichhfbkhnimmaaYD11
import Derived.Test.YtichhfbkhnimmaaYD9
import Derived.Test.YtichhfbkhnimmaaYD1

set_option linter.unusedSimpArgs false
set_option linter.unusedVariables false
set_option maxHeartbeats 4000000
set_option maxRecDepth 8000
namespace Go.Proofs.Ytichhfbkhnimmaa
open Go Go.RowKit Go.PP Go.Dm Go.Rt Go.Mn
theorem ixL_all {n : Nat} {l : List Int} (h : PermOk n l) : ixL n l = backL l := by
  unfold ixL backL
  rw [h.len]
  refine List.map_congr_left fun i hi => ?_
  rw [if_pos (pigeon_all n l h i (List.mem_range.1 hi))]
theorem ixL_set' {n : Nat} {l : List Int} {j m : Nat} (hno : (m : Int) ∉ l.take j) (hj : l[j]? = some (m : Int)) (hm : m < n) : spliceD ((ixL n (l.take j)).map fun x => D.flat (.int .i64 x)) m [.flat (.int .i64 (j : Int))] = (ixL n (l.take (j + 1))).map fun x => D.flat (.int .i64 x) := by
  rw [splice_set (by simp [ixL_len, hm])]
  refine List.ext_getElem? fun i => ?_
  rw [List.getElem?_set, List.getElem?_map, List.getElem?_map]
  have hlen := ixL_len n (l.take j)
  have hjl := (List.getElem?_eq_some_iff.1 hj).1
  have htk : l.take (j + 1) = l.take j ++ [(m : Int)] := by rw [List.take_add_one, hj]; rfl
  by_cases hi : m = i
  · subst hi
    rw [if_pos rfl, if_pos (by simp [hlen, hm])]
    have h3 : (m : Int) ∈ l.take (j + 1) := by rw [htk]; simp
    have h4 : (l.take (j + 1)).idxOf (m : Int) = j := by
      rw [htk, List.idxOf_append, if_neg hno]; simp; omega
    simp [ixL, hm, h3, h4]
  · rw [if_neg hi]
    by_cases h5 : i < n
    · have h6 : ((i : Int) ∈ l.take (j + 1)) ↔ ((i : Int) ∈ l.take j) := by
        rw [htk]; simp; intro h; omega
      by_cases h7 : (i : Int) ∈ l.take j
      · have h8 : (l.take (j + 1)).idxOf (i : Int) = (l.take j).idxOf (i : Int) := by rw [htk, List.idxOf_append, if_pos h7]
        simp [ixL, h5, h7, h6.2 h7, h8]
      · have : ¬ (i : Int) ∈ l.take (j + 1) := fun h => h7 (h6.1 h)
        simp [ixL, h5, h7, this]
    · rw [List.getElem?_eq_none (by rw [ixL_len]; omega), List.getElem?_eq_none (by rw [ixL_len]; omega)]
theorem rep_ix (n : Nat) (l : List Int) : List.replicate n (D.flat (.int .i64 0)) = (ixL n (l.take 0)).map fun x => D.flat (.int .i64 x) := by
  refine List.ext_getElem? fun i => ?_
  rw [List.getElem?_map]
  by_cases hi : i < n
  · simp [ixL, hi]
  · rw [List.getElem?_eq_none (by simp; omega), List.getElem?_eq_none (by rw [ixL_len]; omega)]; rfl
theorem rep_is (n : Nat) (l : List Int) : List.replicate n (D.flat (.bool false)) = (isB n (l.take 0)).map fun x => D.flat (.bool x) := by
  refine List.ext_getElem? fun i => ?_
  rw [List.getElem?_map]
  by_cases hi : i < n
  · rw [isB_get hi]; simp [hi]
  · rw [List.getElem?_eq_none (by simp; omega), List.getElem?_eq_none (by rw [isB_len]; omega)]; rfl
theorem permute_d (A : Au) (hA : Few A) (l : List Int) (hlb : l.length ≤ 1000000000) : DFun Try.prog 33 [auD A, .sl false 1 l.length (l.map fun x => D.flat (.int .i64 x))] (.tup [auD (permuteE A l).1, .flat (.int .i64 (((permuteE A l).2 : Nat) : Int))]) := by
  have hc := check_d A hA
  have hpl := pers_i l
  have q1 := pers_i A.ranks
  have q2 := pers_b A.final
  have q3 := pers_r A.to
  by_cases hk : chk A = 0
  · rw [hk] at hc
    rw [permuteE_ok hk]
    have hok := chk_ok hk
    have hn := hok.hi
    by_cases hl : l.length = A.final.length
    · have hz := rep_ix A.final.length l
      have hz2 := rep_is A.final.length l
      rw [← hl] at hz hz2
      have hst := fun s => state_d A s
      have hpo : ∀ (i : Nat) (x : Int), l[i]? = some x → partD false 1 (i * 1) (l.map fun x => D.flat (.int .i64 x)) = some (.flat (.int .i64 x)) := fun i x h => part_i h
      have hpb : ∀ (m j : Nat), m < l.length → partD false 1 (m * 1) (((isB l.length (l.take j)).map fun x => D.flat (.bool x))) = some (.flat (.bool (decide ((m : Int) ∈ l.take j)))) := fun m j h => part_b (isB_get h (l.take j))
      have hl1 : ∀ j, (((ixL l.length (l.take j)).map fun x => D.flat (.int .i64 x))).length = l.length := fun j => by simp [ixL_len]
      have hl2 : ∀ j, (((isB l.length (l.take j)).map fun x => D.flat (.bool x))).length = l.length := fun j => by simp [isB_len]
      have hx1 := fun j => pers_i (ixL l.length (l.take j))
      have hx2 := fun j => pers_b (isB l.length (l.take j))
      have hset1 := fun (j m : Nat) (h0 : (m : Int) ∉ l.take j) (h1 : l[j]? = some (m : Int)) (h2 : m < l.length) => ixL_set' (n := l.length) h0 h1 h2
      have hset2 := fun (j m : Nat) (h1 : l[j]? = some (m : Int)) (h2 : m < l.length) => isB_take (n := l.length) h2 h1
      have hpm : PermOk A.final.length l → DFun Try.prog 69 [auD A, .sl false 1 l.length ((ixL l.length (l.take l.length)).map fun x => D.flat (.int .i64 x))] (auD (keptA A (backL l))) := fun hp => by
        have hsm := some_d A hok (backL l) (backL_shut hok hp)
        rw [show ixL l.length (l.take l.length) = backL l by rw [List.take_length, hl]; exact ixL_all hp]
        rw [backL_len] at hsm
        exact hsm
      rw [auD_eq A] at *
      generalize (A.ranks.map fun x => D.flat (.int .i64 x)) = LR at *
      generalize (A.final.map fun x => D.flat (.bool x)) = LB at *
      generalize rowsL A.to = LT at *
      generalize (l.map fun x => D.flat (.int .i64 x)) = LL at *
      clear hok hA hk
      refine DFun.enterA Try.func33 Try.ntmps33 ?_
      refine DW.walk ?_
      refine DW.loopA (fun j : Nat => ⟨[(2, .ptr [.sl false 1 A.ranks.length LR, .sl false 1 A.final.length LB, .sl false 1 A.to.length LT] 0), (4, .ref 4 0), (5, .flat (.int .i64 0)), (7, .own 26 l.length), (8, .own 29 l.length), (30, .sl false 1 l.length LL), (31, .flat (.int .i64 ((l.length : Nat) : Int))), (32, .flat (.int .i64 ((j : Nat) : Int)))], [(4, some (.box [.flat (.slice none 0 0), .flat (.slice none 0 0), .flat (.slice none 0 0)])), (26, some (.row 3 1 l.length (((ixL l.length (l.take j)).map fun x => D.flat (.int .i64 x))))), (29, some (.row 4 1 l.length (((isB l.length (l.take j)).map fun x => D.flat (.bool x)))))]⟩)
        (fun j => j ≤ l.length ∧ (l.take j).Nodup ∧ ∀ s ∈ l.take j, 0 ≤ s ∧ s < (A.final.length : Int)) (fun j => l.length - j) 0 ?_ ⟨by omega, by simp, by simp⟩ (by have p1 := hx1 0; have p2 := hx2 0; rw [← hz] at p1 ⊢; rw [← hz2] at p2 ⊢; generalize (List.replicate l.length (D.flat (.int .i64 0))) = RZ at *; generalize (List.replicate l.length (D.flat (.bool false))) = RY at *; exact Sub.auto)
      rintro j ⟨hj, hnd, hrg⟩
      rcases Nat.lt_or_ge j l.length with hlt | hge
      · obtain ⟨q, hq⟩ : ∃ q, l[j]? = some q := ⟨l[j], by simp⟩
        have hp := hpo j q hq
        have hsq := hst q
        have htk : l.take (j + 1) = l.take j ++ [q] := by rw [List.take_add_one, hq]; rfl
        have h10 := hl1 j
        have h20 := hl2 j
        have x10 := hx1 j
        have x20 := hx2 j
        have x11 := hx1 (j + 1)
        have x21 := hx2 (j + 1)
        by_cases hqr : 0 ≤ q ∧ q < (A.final.length : Int)
        · rw [decide_eq_true hqr] at hsq
          obtain ⟨m, rfl⟩ := Int.eq_ofNat_of_zero_le hqr.1
          have hm : m < l.length := by omega
          have hp2 := hpb m j hm
          by_cases hin : (m : Int) ∈ l.take j
          · rw [decide_eq_true hin] at hp2
            have hno : ¬ PermOk A.final.length l := fun h => by
              have h4 : l = l.take (j + 1) ++ l.drop (j + 1) := (List.take_append_drop _ l).symm
              have h5 := h.nd
              rw [h4, htk] at h5
              have h6 := (List.nodup_append.1 (List.nodup_append.1 h5).1).2.2
              exact h6 _ hin _ (by simp) rfl
            rw [permE_no hno]
            generalize (((ixL l.length (l.take j)).map fun x => D.flat (.int .i64 x))) = X1 at *
            generalize (((isB l.length (l.take j)).map fun x => D.flat (.bool x))) = X2 at *
            clear hst hpo hpb hl1 hl2 hx1 hx2 hset1 hset2 hpm hz hz2 hno
            refine DW.walk ?_
            exact ⟨.inr rfl, ResOk.cellTmpA [] rfl rfl rfl TyI.ag TyI.sz rfl trivial (.cons (Vw.p rfl Le.empty) (.cons (Vw.p rfl Le.empty) (.cons (Vw.p rfl Le.empty) .nil))) (Le.refl _) (Vw.pers rfl)⟩
          · rw [decide_eq_false hin] at hp2
            have hs1 := hset1 j m hin hq hm
            have hs2 := hset2 j m hq hm
            have hs1' : List.take (m * 1) (((ixL l.length (l.take j)).map fun x => D.flat (.int .i64 x))) ++ [.flat (.int .i64 ((j : Nat) : Int))] ++ List.drop (m * 1 + 1) (((ixL l.length (l.take j)).map fun x => D.flat (.int .i64 x))) = ((ixL l.length (l.take (j + 1))).map fun x => D.flat (.int .i64 x)) := by rw [Nat.mul_one]; exact hs1
            have hs2' : List.take (m * 1) (((isB l.length (l.take j)).map fun x => D.flat (.bool x))) ++ [D.flat (.bool true)] ++ List.drop (m * 1 + 1) (((isB l.length (l.take j)).map fun x => D.flat (.bool x))) = ((isB l.length (l.take (j + 1))).map fun x => D.flat (.bool x)) := hs2
            have hnx : (l.take (j + 1)).Nodup ∧ ∀ s ∈ l.take (j + 1), 0 ≤ s ∧ s < (A.final.length : Int) := by
              rw [htk]
              refine ⟨List.nodup_append.2 ⟨hnd, by simp, fun a ha b hb => by simp at hb; subst hb; intro e; subst e; exact hin ha⟩, fun s hs => ?_⟩
              rcases List.mem_append.1 hs with hs | hs
              · exact hrg s hs
              · simp at hs; subst hs; exact hqr
            generalize hY1 : (((ixL l.length (l.take (j + 1))).map fun x => D.flat (.int .i64 x))) = Y1 at *
            generalize hY2 : (((isB l.length (l.take (j + 1))).map fun x => D.flat (.bool x))) = Y2 at *
            generalize (((ixL l.length (l.take j)).map fun x => D.flat (.int .i64 x))) = X1 at *
            generalize (((isB l.length (l.take j)).map fun x => D.flat (.bool x))) = X2 at *
            clear hst hpo hpb hl1 hl2 hx1 hx2 hset1 hset2 hpm hz hz2 hs1 hs2 htk hrg hnd
            refine DW.walk ?_
            rw [hs1', hs2']
            exact ⟨j + 1, ⟨by omega, hnx⟩, by omega, by rw [hY1, hY2]; exact Sub.auto⟩
        · rw [decide_eq_false hqr] at hsq
          have hno : ¬ PermOk A.final.length l := fun h => hqr (h.rng q (List.mem_of_getElem? hq))
          rw [permE_no hno]
          generalize (((ixL l.length (l.take j)).map fun x => D.flat (.int .i64 x))) = X1 at *
          generalize (((isB l.length (l.take j)).map fun x => D.flat (.bool x))) = X2 at *
          clear hst hpo hpb hl1 hl2 hx1 hx2 hset1 hset2 hpm hz hz2 hno hqr
          refine DW.walk ?_
          exact ⟨.inr rfl, ResOk.cellTmpA [] rfl rfl rfl TyI.ag TyI.sz rfl trivial (.cons (Vw.p rfl Le.empty) (.cons (Vw.p rfl Le.empty) (.cons (Vw.p rfl Le.empty) .nil))) (Le.refl _) (Vw.pers rfl)⟩
      · have hje : j = l.length := by omega
        subst hje
        have hp : PermOk A.final.length l := ⟨hl, by rw [List.take_length] at hnd; exact hnd, by rw [List.take_length] at hrg; exact hrg⟩
        rw [permE_ok hp]
        have hsm := hpm hp
        have x10 := hx1 l.length
        have x20 := hx2 l.length
        show DW _ _ _ _ _
        generalize keptA A (backL l) = Mk at *
        have m1 := pers_i Mk.ranks
        have m2 := pers_b Mk.final
        have m3 := pers_r Mk.to
        dsimp only
        rw [auD_eq Mk] at *
        generalize (Mk.ranks.map fun x => D.flat (.int .i64 x)) = MR at *
        generalize (Mk.final.map fun x => D.flat (.bool x)) = MB at *
        generalize rowsL Mk.to = MT at *
        generalize (((ixL l.length (l.take l.length)).map fun x => D.flat (.int .i64 x))) = X1 at *
        generalize (((isB l.length (l.take l.length)).map fun x => D.flat (.bool x))) = X2 at *
        clear hst hpo hpb hl1 hl2 hx1 hx2 hset1 hset2 hpm hz hz2 hp hnd hrg
        refine DW.walkTo 15 ?_
        refine DW.sub (s' := ⟨[(2, .ptr [.sl false 1 A.ranks.length LR, .sl false 1 A.final.length LB, .sl false 1 A.to.length LT] 0), (4, .ref 4 0), (7, .sl false 1 l.length X1)], [(4, some (.box [.flat (.slice none 0 0), .flat (.slice none 0 0), .flat (.slice none 0 0)]))]⟩) Sub.auto ?_
        refine DW.walk ?_
        exact ⟨.inr rfl, ResOk.cellTmpA [] rfl rfl rfl TyI.ag TyI.sz rfl trivial (VwL.pers (by simp [persL, pers, m1, m2, m3])) (Le.refl _) (Vw.pers rfl)⟩
    · have hno : ¬ PermOk A.final.length l := fun h => hl h.len
      rw [permE_no hno]
      have hne : ((l.length : Nat) : Int) ≠ (A.final.length : Nat) := by omega
      show DFun Try.prog 33 _ (.tup [.agg [.sl false 1 0 [], .sl false 1 0 [], .sl false 1 0 []], _])
      rw [auD_eq] at *
      generalize (A.ranks.map fun x => D.flat (.int .i64 x)) = LR at *
      generalize (A.final.map fun x => D.flat (.bool x)) = LB at *
      generalize rowsL A.to = LT at *
      generalize (l.map fun x => D.flat (.int .i64 x)) = LL at *
      refine DFun.enterA Try.func33 Try.ntmps33 ?_
      refine DW.walk ?_
      exact ⟨.inr rfl, ResOk.cellTmpA [] rfl rfl rfl TyI.ag TyI.sz rfl trivial (.cons (Vw.p rfl Le.empty) (.cons (Vw.p rfl Le.empty) (.cons (Vw.p rfl Le.empty) .nil))) (Le.refl _) (Vw.pers rfl)⟩
  · have hne : ((chk A : Nat) : Int) ≠ 0 := by omega
    rw [permuteE_bad hk]
    show DFun Try.prog 33 _ (.tup [.agg [.sl false 1 0 [], .sl false 1 0 [], .sl false 1 0 []], _])
    generalize chk A = ck at *
    rw [auD_eq] at *
    generalize (A.ranks.map fun x => D.flat (.int .i64 x)) = LR at *
    generalize (A.final.map fun x => D.flat (.bool x)) = LB at *
    generalize rowsL A.to = LT at *
    generalize (l.map fun x => D.flat (.int .i64 x)) = LL at *
    refine DFun.enterA Try.func33 Try.ntmps33 ?_
    refine DW.walk ?_
    exact ⟨.inr rfl, ResOk.cellTmpA [] rfl rfl rfl TyI.ag TyI.sz rfl trivial (.cons (Vw.p rfl Le.empty) (.cons (Vw.p rfl Le.empty) (.cons (Vw.p rfl Le.empty) .nil))) (Le.refl _) (Vw.pers rfl)⟩
end Go.Proofs.Ytichhfbkhnimmaa

set_option linter.unusedSimpArgs false
set_option linter.unusedVariables false
set_option maxHeartbeats 4000000
set_option maxRecDepth 8000
namespace Go.Proofs.Ytichhfbkhnimmaa
open Go Go.RowKit Go.PP Go.Dm Go.Rt Go.Mn
theorem stg_ext {w0 w : World} {M0 : Nat → Prop} {B0 : Bd} {N : Nat} {g : Gh} {f : Fr} {σ σ' : Sg} {a : Act} (h : ∀ id, lkE σ id = lkE σ' id) (hs : StG w0 M0 B0 N g ⟨f, σ⟩ a w) : StG w0 M0 B0 N g ⟨f, σ'⟩ a w := by
  have hb : ∀ id, blkOf g σ' id = blkOf g σ id := fun id => by unfold blkOf; rw [h]
  have hM : Mx M0 g σ' = Mx M0 g σ := by funext b; unfold Mx; simp only [hb]
  have hG : GrowO (some (g, σ)) (some (g, σ')) := ⟨fun id cs q => ⟨⟨cs, by rw [← h]; exact q⟩, rfl⟩, fun id e n len cs q => .inr ⟨e, n, len, cs, by rw [← h]; exact q, Nat.le_refl _, fun _ => rfl⟩, fun id q => by rw [← h]; exact q⟩
  have hr : ∀ d v, Rep (Mx M0 g σ) w (some (g, σ)) d v → Rep (Mx M0 g σ) w (some (g, σ')) d v := fun d v q => Rep.step hG (Mut.refl (fun _ => False) w) (fun _ _ e => e.elim) (fun _ _ q => q) d v q
  have hrl : ∀ d v, RepL (Mx M0 g σ) w (some (g, σ)) d v → RepL (Mx M0 g σ) w (some (g, σ')) d v := fun d v q => RepL.step hG (Mut.refl (fun _ => False) w) (fun _ _ e => e.elim) (fun _ _ q => q) d v q
  refine ⟨hs.chg, hs.m0, ?_, hs.sz, fun t => by show Rep (Mx M0 g σ') w _ _ _; rw [hM]; exact hr _ _ (hs.tm t), fun id e he => ?_, fun id id' b q1 q2 => hs.sep id id' b (by rw [← hb]; exact q1) (by rw [← hb]; exact q2), fun id b q => hs.new id b (by rw [← hb]; exact q), fun id => ⟨fun cs q => (hs.anc id).1 cs (by rw [h]; exact q), fun e n len cs q => (hs.anc id).2 e n len cs (by rw [h]; exact q)⟩, hs.glo⟩
  · obtain ⟨Ds, h1, h2, h3⟩ := hs.df
    exact ⟨Ds, h1, h2, fun D hD => ⟨(h3 D hD).1, fun id q => (h3 D hD).2 id (by rw [← hb]; exact q)⟩⟩
  · have h0 := hs.ent id e (by show lkE σ id = _; rw [h]; exact he)
    show EntOk (Mx M0 g σ') w g σ' id e
    rw [hM]
    cases e with
    | box cs => obtain ⟨vs, o, q1, q2, q3⟩ := h0; exact ⟨vs, o, q1, hrl _ _ q2, q3⟩
    | row e n len cs => obtain ⟨vs, q1, q2⟩ := h0; exact ⟨vs, q1, hrl _ _ q2⟩
    | dead => trivial
theorem ens_at {σ : Sg} : ∀ {pe : List (Nat × Option Ent)}, Ens σ pe → ∀ id e, fnd pe id = some e → lkE σ id = e
  | [], _, id, e, h => by simp [fnd] at h
  | p :: r, hE, id, e, h => by
    simp only [fnd] at h
    by_cases q : p.1 = id
    · subst q
      simp at h
      rw [← h]; exact hE.1
    · rw [show (p.1 == id) = false by simpa using q] at h
      exact ens_at hE.2 id e h
theorem tri_quiet {P : Program} {N : Nat} {o : Oper} {pf : List (Operand × D)} {pe : List (Nat × Option Ent)} {d : D} (h : Tri P N o pf pe d pe) : Tri P N o pf pe d [] := by
  refine ⟨fun w0 M0 B0 s a w next Q h1 h2 hd hst hk => h.go w0 M0 B0 s a w next Q h1 h2 hd hst fun a' w' ⟨g, hg⟩ => hk a' w' ⟨g, stg_ext (fun id => ?_) hg⟩⟩
  rw [lkE_app]
  cases hf : fnd pe id with
  | none => rfl
  | some e => exact (ens_at h2 id e hf).symm
structure Flat (U : List Int) : Prop where
  at_ : ∀ (a : Nat) (x : Int), U[a]? = some x → ∃ m : Nat, x = (m : Int) ∧ m ≤ a ∧ U[m]? = some (m : Int)
theorem len0_d (U : List Int) : DLend Try.prog 17 [.ref 225626701274425600001 0] [(225626701274425600001, some (.box [.own 225626701274425600002 U.length])), (225626701274425600002, some (.row 3 1 U.length (U.map fun x => D.flat (.int .i64 x))))] [(225626701274425600001, some (.box [.own 225626701274425600002 U.length])), (225626701274425600002, some (.row 3 1 U.length (U.map fun x => D.flat (.int .i64 x))))] (.flat (.int .i64 ((U.length : Nat) : Int))) := by
  have hp := pers_i U
  have ho := oneL_ints U
  generalize (U.map fun x => D.flat (.int .i64 x)) = LU at *
  refine DLend.enterA Try.func17 Try.ntmps17 ?_
  refine DW.walk ?_
  exact ⟨.inr rfl, ResL.oneA⟩
theorem there0_d (U : List Int) (a : Int) : DLend Try.prog 52 [.ref 225626701274425600001 0, .flat (.int .i64 a)] [(225626701274425600001, some (.box [.own 225626701274425600002 U.length])), (225626701274425600002, some (.row 3 1 U.length (U.map fun x => D.flat (.int .i64 x))))] [(225626701274425600001, some (.box [.own 225626701274425600002 U.length])), (225626701274425600002, some (.row 3 1 U.length (U.map fun x => D.flat (.int .i64 x))))] (.flat (.bool (decide (0 ≤ a ∧ a < (U.length : Int))))) := by
  have hp := pers_i U
  have ho := oneL_ints U
  generalize (U.map fun x => D.flat (.int .i64 x)) = LU at *
  by_cases h0 : 0 ≤ a
  · rw [show decide (0 ≤ a ∧ a < (U.length : Int)) = decide (a < (U.length : Int)) by simp [h0]]
    refine DLend.enterA Try.func52 Try.ntmps52 ?_
    refine DW.walk ?_
    exact ⟨.inr rfl, ResL.oneA⟩
  · rw [show decide (0 ≤ a ∧ a < (U.length : Int)) = false by simp [h0]]
    refine DLend.enterA Try.func52 Try.ntmps52 ?_
    refine DW.walk ?_
    exact ⟨.inr rfl, ResL.oneA⟩
theorem headr0_d (U : List Int) (hU : U.length ≤ 1000000) (a : Nat) (h : U[a]? = some (a : Int)) : DLend Try.prog 97 [.flat (.int .i64 ((a : Nat) : Int)), .ref 6871947673600001 0, .ref 6871947673600002 0] [(225626701274425600001, some (.box [.own 225626701274425600002 U.length])), (225626701274425600002, some (.row 3 1 U.length (U.map fun x => D.flat (.int .i64 x)))), (6871947673600001, some (.box [.ref 225626701274425600001 0])), (6871947673600002, some (.box [.clo (.func 97) [] [.ref 6871947673600001 0, .ref 6871947673600002 0]]))] [(225626701274425600001, some (.box [.own 225626701274425600002 U.length])), (225626701274425600002, some (.row 3 1 U.length (U.map fun x => D.flat (.int .i64 x)))), (6871947673600001, some (.box [.ref 225626701274425600001 0])), (6871947673600002, some (.box [.clo (.func 97) [] [.ref 6871947673600001 0, .ref 6871947673600002 0]]))] (.flat (.int .i64 ((a : Nat) : Int))) := by
  have hp := pers_i U
  have ho := oneL_ints U
  have hq := part_i h
  have ha := (List.getElem?_eq_some_iff.1 h).1
  have hl : (U.map fun x => D.flat (.int .i64 x)).length = U.length := by simp
  generalize (U.map fun x => D.flat (.int .i64 x)) = LU at *
  refine DLend.enterA Try.func97 Try.ntmps97 ?_
  refine DW.walk ?_
  exact ⟨.inr rfl, ResL.oneA⟩
end Go.Proofs.Ytichhfbkhnimmaa

set_option linter.unusedSimpArgs false
set_option linter.unusedVariables false
set_option maxHeartbeats 4000000
set_option maxRecDepth 8000
namespace Go.Proofs.Ytichhfbkhnimmaa
open Go Go.RowKit Go.PP Go.Dm Go.Rt Go.Mn
theorem headx0_d (U : List Int) (hf : Flat U) (hU : U.length ≤ 1000000) (a m : Nat) (h : U[a]? = some (m : Int)) : DLend Try.prog 97 [.flat (.int .i64 ((a : Nat) : Int)), .ref 6871947673600001 0, .ref 6871947673600002 0] [(225626701274425600001, some (.box [.own 225626701274425600002 U.length])), (225626701274425600002, some (.row 3 1 U.length (U.map fun x => D.flat (.int .i64 x)))), (6871947673600001, some (.box [.ref 225626701274425600001 0])), (6871947673600002, some (.box [.clo (.func 97) [] [.ref 6871947673600001 0, .ref 6871947673600002 0]]))] [(225626701274425600001, some (.box [.own 225626701274425600002 U.length])), (225626701274425600002, some (.row 3 1 U.length (U.map fun x => D.flat (.int .i64 x)))), (6871947673600001, some (.box [.ref 225626701274425600001 0])), (6871947673600002, some (.box [.clo (.func 97) [] [.ref 6871947673600001 0, .ref 6871947673600002 0]]))] (.flat (.int .i64 ((m : Nat) : Int))) := by
  obtain ⟨m2, hm, hma, hmm⟩ := hf.at_ a _ h
  have hm : m2 = m := by omega
  subst hm
  by_cases e : m2 = a
  · subst e
    exact headr0_d U hU m2 h
  · have hr := fun _ : Unit => headr0_d U hU m2 hmm
    have hp := pers_i U
    have ho := oneL_ints U
    have hq := part_i h
    have ha := (List.getElem?_eq_some_iff.1 h).1
    have hl : (U.map fun x => D.flat (.int .i64 x)).length = U.length := by simp
    have hset : List.take (a * 1) (U.map fun x => D.flat (.int .i64 x)) ++ [.flat (.int .i64 ((m2 : Nat) : Int))] ++ List.drop (a * 1 + 1) (U.map fun x => D.flat (.int .i64 x)) = U.map fun x => D.flat (.int .i64 x) := by
      have h1 := splice_set (x := .flat (.int .i64 ((m2 : Nat) : Int))) (show a < (U.map fun x => D.flat (.int .i64 x)).length by omega)
      unfold spliceD at h1
      rw [Nat.mul_one]
      refine h1.trans (List.ext_getElem? fun j => ?_)
      rw [List.getElem?_set]
      split
      · rename_i e1
        subst e1
        rw [if_pos (by omega), List.getElem?_map, h]; rfl
      · rfl
    clear h hmm hf
    generalize (U.map fun x => D.flat (.int .i64 x)) = LU at *
    refine DLend.enterA Try.func97 Try.ntmps97 ?_
    have hq2 : partD false 1 (a * 1) (List.take (a * 1) LU ++ [.flat (.int .i64 ((m2 : Nat) : Int))] ++ List.drop (a * 1 + 1) LU) = some (.flat (.int .i64 ((m2 : Nat) : Int))) := by rw [hset]; exact hq
    refine DW.walk ?_
    refine DC.t (tri_quiet (T.lendCA (ar := [_]) (ds := [_]) EntC.h (hr ()) rfl VlL.auto rfl (by first | rfl | decide +kernel) EsL.auto)) ⟨rfl, rfl, trivial⟩ (by repeat (first | exact trivial | refine ⟨rfl, ?_⟩)) ?_
    refine DC.walk ?_
    rw [hset]
    exact ⟨.inr rfl, ResL.oneA⟩
theorem head0_d (U : List Int) (hf : Flat U) (hU : U.length ≤ 1000000) (a m : Nat) (h : U[a]? = some (m : Int)) : DLend Try.prog 53 [.ref 225626701274425600001 0, .flat (.int .i64 ((a : Nat) : Int))] [(225626701274425600001, some (.box [.own 225626701274425600002 U.length])), (225626701274425600002, some (.row 3 1 U.length (U.map fun x => D.flat (.int .i64 x))))] [(225626701274425600001, some (.box [.own 225626701274425600002 U.length])), (225626701274425600002, some (.row 3 1 U.length (U.map fun x => D.flat (.int .i64 x))))] (.flat (.int .i64 ((m : Nat) : Int))) := by
  have hx := headx0_d U hf hU a m h
  have hp := pers_i U
  have ho := oneL_ints U
  have h2 := IdAt.of 2 6871947673600001
  have h5 := IdAt.of 5 6871947673600002
  clear h hf
  generalize (U.map fun x => D.flat (.int .i64 x)) = LU at *
  refine DLend.enterA Try.func53 Try.ntmps53 ?_
  refine DW.walk ?_
  exact ⟨.inr rfl, ResL.oneA⟩
end Go.Proofs.Ytichhfbkhnimmaa

set_option linter.unusedSimpArgs false
set_option linter.unusedVariables false
set_option maxHeartbeats 4000000
set_option maxRecDepth 8000
namespace Go.Proofs.Ytichhfbkhnimmaa
open Go Go.RowKit Go.PP Go.Dm Go.Rt Go.Mn
theorem join0_d (U : List Int) (hf : Flat U) (hU : U.length ≤ 1000000) (a b ma mb : Nat) (h1 : U[a]? = some (ma : Int)) (h2 : U[b]? = some (mb : Int)) (hle : ma ≤ mb) :
    DLend Try.prog 120 [.ref 225626701274425600001 0, .flat (.int .i64 ((a : Nat) : Int)), .flat (.int .i64 ((b : Nat) : Int))] [(225626701274425600001, some (.box [.own 225626701274425600002 U.length])), (225626701274425600002, some (.row 3 1 U.length (U.map fun x => D.flat (.int .i64 x))))] [(225626701274425600001, some (.box [.own 225626701274425600002 U.length])), (225626701274425600002, some (.row 3 1 U.length ((U.set mb (ma : Int)).map fun x => D.flat (.int .i64 x))))] (.flat (.bool (decide ((ma : Int) ≠ (mb : Int))))) := by
  have x1 := head0_d U hf hU a ma h1
  have x2 := head0_d U hf hU b mb h2
  obtain ⟨m2, e2, hm2, hmm⟩ := hf.at_ b _ h2
  have hbl := (List.getElem?_eq_some_iff.1 h2).1
  have hal := (List.getElem?_eq_some_iff.1 h1).1
  have hml : mb < U.length := by omega
  have hp := pers_i U
  have ho := oneL_ints U
  have hl : (U.map fun x => D.flat (.int .i64 x)).length = U.length := by simp
  have hset : List.take (mb * 1) (U.map fun x => D.flat (.int .i64 x)) ++ [.flat (.int .i64 ((ma : Nat) : Int))] ++ List.drop (mb * 1 + 1) (U.map fun x => D.flat (.int .i64 x)) = ((U.set mb (ma : Int)).map fun x => D.flat (.int .i64 x)) := by
    have h1 := splice_set (x := .flat (.int .i64 ((ma : Nat) : Int))) (show mb < (U.map fun x => D.flat (.int .i64 x)).length by omega)
    unfold spliceD at h1
    rw [Nat.mul_one]
    rw [List.map_set]
    exact h1
  have hp2 := pers_i (U.set mb (ma : Int))
  generalize ((U.set mb (ma : Int)).map fun x => D.flat (.int .i64 x)) = LV at *
  generalize (U.map fun x => D.flat (.int .i64 x)) = LU at *
  have hmx : (if (mb : Int) > (ma : Int) then (mb : Int) else (ma : Int)) = (mb : Int) := by split <;> omega
  have hmn : (if (mb : Int) < (ma : Int) then (mb : Int) else (ma : Int)) = (ma : Int) := by split <;> omega
  clear h1 h2 hf e2 hm2 hmm
  refine DLend.enterA Try.func120 Try.ntmps120 ?_
  refine DW.walk ?_
  rw [hset]
  exact ⟨.inr rfl, ResL.oneA⟩
theorem union0_d (U : List Int) (hf : Flat U) (hU : U.length ≤ 1000000) (a b ma mb : Nat) (h1 : U[a]? = some (ma : Int)) (h2 : U[b]? = some (mb : Int)) (hle : ma ≤ mb) :
    DLend Try.prog 93 [.ref 225626701274425600001 0, .flat (.int .i64 ((a : Nat) : Int)), .flat (.int .i64 ((b : Nat) : Int))] [(225626701274425600001, some (.box [.own 225626701274425600002 U.length])), (225626701274425600002, some (.row 3 1 U.length (U.map fun x => D.flat (.int .i64 x))))] [(225626701274425600001, some (.box [.own 225626701274425600002 U.length])), (225626701274425600002, some (.row 3 1 U.length ((U.set mb (ma : Int)).map fun x => D.flat (.int .i64 x))))] (.tup [.flat (.bool (decide ((ma : Int) ≠ (mb : Int)))), .flat (.int .i64 0)]) := by
  have hj := join0_d U hf hU a b ma mb h1 h2 hle
  have t1 := there0_d U a
  have t2 := there0_d U b
  have hbl := (List.getElem?_eq_some_iff.1 h2).1
  have hal := (List.getElem?_eq_some_iff.1 h1).1
  rw [decide_eq_true (by omega)] at t1 t2
  have hp := pers_i U
  have hp2 := pers_i (U.set mb (ma : Int))
  generalize ((U.set mb (ma : Int)).map fun x => D.flat (.int .i64 x)) = LV at *
  generalize (U.map fun x => D.flat (.int .i64 x)) = LU at *
  clear h1 h2 hf
  refine DLend.enterA Try.func93 Try.ntmps93 ?_
  refine DW.walk ?_
  exact ⟨.inr rfl, ResL.twoA⟩
theorem find0_d (U : List Int) (hf : Flat U) (hU : U.length ≤ 1000000) (a ma : Nat) (h1 : U[a]? = some (ma : Int)) :
    DLend Try.prog 18 [.ref 225626701274425600001 0, .flat (.int .i64 ((a : Nat) : Int))] [(225626701274425600001, some (.box [.own 225626701274425600002 U.length])), (225626701274425600002, some (.row 3 1 U.length (U.map fun x => D.flat (.int .i64 x))))] [(225626701274425600001, some (.box [.own 225626701274425600002 U.length])), (225626701274425600002, some (.row 3 1 U.length (U.map fun x => D.flat (.int .i64 x))))] (.tup [.flat (.int .i64 ((ma : Nat) : Int)), .flat (.int .i64 0)]) := by
  have hh := head0_d U hf hU a ma h1
  have t1 := there0_d U a
  have hal := (List.getElem?_eq_some_iff.1 h1).1
  rw [decide_eq_true (by omega)] at t1
  have hp := pers_i U
  generalize (U.map fun x => D.flat (.int .i64 x)) = LU at *
  clear h1 hf
  refine DLend.enterA Try.func18 Try.ntmps18 ?_
  refine DW.walk ?_
  exact ⟨.inr rfl, ResL.twoA⟩
end Go.Proofs.Ytichhfbkhnimmaa

set_option linter.unusedSimpArgs false
set_option linter.unusedVariables false
set_option maxHeartbeats 4000000
set_option maxRecDepth 8000
namespace Go.Proofs.Ytichhfbkhnimmaa
open Go Go.RowKit Go.PP Go.Dm Go.Rt Go.Mn
def fillU (n j : Nat) : List Int := ((List.range j).map fun (i : Nat) => (i : Int)) ++ List.replicate (n - j) 0
theorem fillU_len {n j : Nat} (h : j ≤ n) : (fillU n j).length = n := by simp [fillU]; omega
def idU (n : Nat) : List Int := (List.range n).map fun (i : Nat) => (i : Int)
theorem fillU_all (n : Nat) : fillU n n = idU n := by simp [fillU, idU]
theorem fillU_zero (n : Nat) : fillU n 0 = List.replicate n 0 := by simp [fillU]
theorem fillU_next {n j : Nat} (h : j < n) : (fillU n j).set j (j : Int) = fillU n (j + 1) := by
  refine List.ext_getElem? fun i => ?_
  have hl := fillU_len (n := n) (j := j) (by omega)
  rw [List.getElem?_set, hl]
  by_cases e : j = i
  · subst e
    rw [if_pos rfl, if_pos h]
    unfold fillU
    rw [List.getElem?_append_left (by simp)]
    simp
  · rw [if_neg e]
    unfold fillU
    by_cases e2 : i < j
    · rw [List.getElem?_append_left (by simp; omega), List.getElem?_append_left (by simp; omega)]
      simp [e2, show i < j + 1 by omega]
    · rw [List.getElem?_append_right (by simp; omega), List.getElem?_append_right (by simp; omega)]
      simp only [List.length_map, List.length_range, List.getElem?_replicate]
      by_cases e3 : i < n
      · rw [if_pos (by omega), if_pos (by omega)]
      · rw [if_neg (by omega), if_neg (by omega)]
theorem fillU_set {n j : Nat} (h : j < n) : List.take (j * 1) ((fillU n j).map fun x => D.flat (.int .i64 x)) ++ [.flat (.int .i64 ((j : Nat) : Int))] ++ List.drop (j * 1 + 1) ((fillU n j).map fun x => D.flat (.int .i64 x)) = ((fillU n (j + 1)).map fun x => D.flat (.int .i64 x)) := by
  have hl := fillU_len (n := n) (j := j) (by omega)
  have h1 := splice_set (x := .flat (.int .i64 ((j : Nat) : Int))) (show j < (((fillU n j).map fun x => D.flat (.int .i64 x))).length by simp [hl, h])
  unfold spliceD at h1
  rw [Nat.mul_one, ← fillU_next h, List.map_set]
  exact h1
theorem new_d (n : Nat) (hn : n ≤ 4096) : DLend Try.prog 92 [.flat (.int .i64 ((n : Nat) : Int))] [(225626701274425600001, none), (225626701274425600002, none)] [(225626701274425600001, some (.box [.own 225626701274425600002 n])), (225626701274425600002, some (.row 3 1 n ((idU n).map fun x => D.flat (.int .i64 x))))] (.tup [.ref 225626701274425600001 0, .flat (.int .i64 0)]) := by
  have h1 := IdAt.of 13 225626701274425600002
  have h2 := IdAt.of 15 225626701274425600001
  have hz : List.replicate n (D.flat (.int .i64 0)) = ((fillU n 0).map fun x => D.flat (.int .i64 x)) := by rw [fillU_zero]; simp
  have hset := fun j (h : j < n) => fillU_set h
  have hlen := fun j (h : j ≤ n) => fillU_len h
  have hp := fun j => pers_i (fillU n j)
  refine DLend.enterA Try.func92 Try.ntmps92 ?_
  refine DW.walk ?_
  refine DW.loopA (fun j : Nat => ⟨[(4, .ref 225626701274425600001 0), (16, .flat (.int .i64 ((n : Nat) : Int))), (17, .flat (.int .i64 ((j : Nat) : Int)))], [(225626701274425600001, some (.box [.own 225626701274425600002 n])), (225626701274425600002, some (.row 3 1 n ((fillU n j).map fun x => D.flat (.int .i64 x))))]⟩) (fun j => j ≤ n) (fun j => n - j) 0 ?_ (Nat.zero_le _) (by have hp0 := hp 0; rw [← hz] at hp0 ⊢; generalize (List.replicate n (D.flat (.int .i64 0))) = RZ at *; exact Sub.auto)
  intro j hj
  rcases Nat.lt_or_ge j n with hlt | hge
  · have hs := hset j hlt
    have hl := hlen j hj
    have hl2 : (((fillU n j).map fun x => D.flat (.int .i64 x))).length = n := by simp [hl]
    have q0 := hp j
    have q1 := hp (j + 1)
    generalize hF1 : ((fillU n (j + 1)).map fun x => D.flat (.int .i64 x)) = F1 at *
    generalize hF0 : ((fillU n j).map fun x => D.flat (.int .i64 x)) = F0 at *
    clear hset hlen hp hz
    refine DW.walk ?_
    rw [hs]
    exact ⟨j + 1, by omega, by omega, by rw [hF1]; exact Sub.auto⟩
  · obtain rfl : n = j := by omega
    rw [fillU_all]
    have q0 := pers_i (idU n)
    generalize ((idU n).map fun x => D.flat (.int .i64 x)) = F0 at *
    clear hset hlen hp hz
    refine DW.walk ?_
    exact ⟨.inr rfl, ResL.twoA⟩
end Go.Proofs.Ytichhfbkhnimmaa
