/- Contracts over data: equal automata. No condition. -/
import Derived.Test.YtichhfbkhnimmaaYD5
import Derived.Test.YtichhfbkhnimmaaYD3
import Derived.Test.YtichhfbkhnimmaaYMC

set_option linter.unusedSimpArgs false
set_option linter.unusedVariables false
set_option maxHeartbeats 4000000
set_option maxRecDepth 8000
namespace Go.Proofs.Ytichhfbkhnimmaa
open Go Go.RowKit Go.PP Go.Dm Go.Rt Go.Mn
theorem eq66_d (l r : List (List Int)) (hl : l.length ≤ 1000000000) (hr : r.length ≤ 1000000000) (hll : ∀ x ∈ l, x.length ≤ 1000000000) (hrl : ∀ x ∈ r, x.length ≤ 1000000000) : DFun Try.prog 66 [.sl false 1 l.length (rowsL l), .sl false 1 r.length (rowsL r), .clo (.func 67) [] []] (.flat (.bool (decide (l = r)))) := by
  have hpl : ∀ (i : Nat) (x : List Int), l[i]? = some x → partD false 1 (i * 1) (rowsL l) = some (.sl false 1 x.length (x.map fun x => D.flat (.int .i64 x))) := fun i x h => part_r h
  have hpr : ∀ (i : Nat) (x : List Int), r[i]? = some x → partD false 1 (i * 1) (rowsL r) = some (.sl false 1 x.length (x.map fun x => D.flat (.int .i64 x))) := fun i x h => part_r h
  have hp1 := pers_r l
  have hp2 := pers_r r
  have heq := fun (u v : List Int) (h1 : u ∈ l) (h2 : v ∈ r) => eq67_d u v (hll u h1) (hrl v h2)
  generalize rowsL l = LL at *
  generalize rowsL r = LX at *
  refine DFun.enterA Try.func66 Try.ntmps66 ?_
  by_cases hlr : l.length = r.length
  · rw [← hlr] at hr ⊢
    by_cases hd : ∃ i : Nat, ∃ x y, l[i]? = some x ∧ r[i]? = some y ∧ x ≠ y
    · obtain ⟨j, ⟨x, y, h1, h2, hne⟩, h4⟩ := least_of hd
      rw [decide_eq_false (fun e => by rw [e, h2] at h1; exact hne (Option.some.inj h1).symm)]
      have hjl := (List.getElem?_eq_some_iff.1 h1).1
      clear hd hll hrl
      refine DW.walk ?_
      refine DW.loopA (fun i : Nat => ⟨[(0, .sl false 1 l.length LL), (1, .sl false 1 l.length LX), (2, .clo (.func 67) [] []), (15, .sl false 1 l.length LL), (16, .flat (.int .i64 ((l.length : Nat) : Int))), (17, .flat (.int .i64 ((i : Nat) : Int)))], []⟩) (fun i => i ≤ j) (fun i => j - i) 0 ?_ (Nat.zero_le _)
      intro i hi
      rcases Nat.lt_or_ge i j with hlt | hge
      · obtain ⟨u, hu⟩ : ∃ u, l[i]? = some u := ⟨_, List.getElem?_eq_getElem (by omega)⟩
        obtain ⟨v, hv⟩ : ∃ v, r[i]? = some v := ⟨_, List.getElem?_eq_getElem (by omega)⟩
        have huv : u = v := Classical.byContradiction fun h => h4 i hlt ⟨u, v, hu, hv, h⟩
        have q1 := hpl i u hu
        have q2 := hpr i v hv
        subst huv
        have q3 := heq u u (List.mem_of_getElem? hu) (List.mem_of_getElem? hv)
        rw [decide_eq_true rfl] at q3
        generalize (u.map fun x => D.flat (.int .i64 x)) = LU at *
        clear hpl hpr h1 h2 h4 hne hu hv heq
        refine DW.walk ?_
        exact ⟨i + 1, by omega, by omega, Sub.auto⟩
      · obtain rfl : i = j := by omega
        have q1 := hpl i x h1
        have q2 := hpr i y h2
        have q3 := heq x y (List.mem_of_getElem? h1) (List.mem_of_getElem? h2)
        rw [decide_eq_false hne] at q3
        generalize (x.map fun x => D.flat (.int .i64 x)) = LU at *
        generalize (y.map fun x => D.flat (.int .i64 x)) = LV at *
        clear hpl hpr h1 h2 h4 heq hne
        refine DW.walk ?_
        exact ⟨.inr rfl, ResOk.one [] rfl rfl trivial (Vw.pers rfl)⟩
    · have he : l = r := List.ext_getElem? fun i => by
        rcases Nat.lt_or_ge i l.length with h | h
        · have e1 := List.getElem?_eq_getElem h
          have e2 := List.getElem?_eq_getElem (l := r) (i := i) (by omega)
          rw [e1, e2]
          exact congrArg some (Classical.byContradiction fun hn => hd ⟨i, _, _, e1, e2, hn⟩)
        · rw [List.getElem?_eq_none h, List.getElem?_eq_none (by omega)]
      rw [decide_eq_true he]
      subst he
      clear hd hlr hll hrl
      refine DW.walk ?_
      refine DW.loopA (fun i : Nat => ⟨[(0, .sl false 1 l.length LL), (1, .sl false 1 l.length LX), (2, .clo (.func 67) [] []), (15, .sl false 1 l.length LL), (16, .flat (.int .i64 ((l.length : Nat) : Int))), (17, .flat (.int .i64 ((i : Nat) : Int)))], []⟩) (fun i => i ≤ l.length) (fun i => l.length - i) 0 ?_ (Nat.zero_le _)
      intro i hi
      rcases Nat.lt_or_ge i l.length with hlt | hge
      · obtain ⟨u, hu⟩ : ∃ u, l[i]? = some u := ⟨_, List.getElem?_eq_getElem (by omega)⟩
        have q1 := hpl i u hu
        have q2 := hpr i u hu
        have q3 := heq u u (List.mem_of_getElem? hu) (List.mem_of_getElem? hu)
        rw [decide_eq_true rfl] at q3
        generalize (u.map fun x => D.flat (.int .i64 x)) = LU at *
        clear hpl hpr hu heq
        refine DW.walk ?_
        exact ⟨i + 1, by omega, by omega, Sub.auto⟩
      · obtain rfl : i = l.length := by omega
        clear hpl hpr heq
        refine DW.walk ?_
        exact ⟨.inr rfl, ResOk.one [] rfl rfl trivial (Vw.pers rfl)⟩
  · rw [decide_eq_false (fun e => hlr (by rw [e]))]
    clear hpl hpr heq hll hrl
    refine DW.walk ?_
    exact ⟨.inr rfl, ResOk.one [] rfl rfl trivial (Vw.pers rfl)⟩
def eqB (A B : Au) : Bool := decide (A.ranks = B.ranks) && (decide (A.final = B.final) && decide (A.to = B.to))
theorem eqB_iff {A B : Au} : eqB A B = true ↔ A = B := by
  obtain ⟨r, f, t⟩ := A
  obtain ⟨r2, f2, t2⟩ := B
  unfold eqB
  simp
theorem equal_d (A B : Au) (hA : Few A) (hB : Few B) : DFun Try.prog 32 [auD A, auD B] (.flat (.bool (eqB A B))) := by
  have h1 := eq63_d A.ranks B.ranks (by have := hA.r; omega) (by have := hB.r; omega)
  have h2 := eq65_d A.final B.final (by have := hA.f; omega) (by have := hB.f; omega)
  have h3 := (eq66_d A.to B.to (by have := hA.t; omega) (by have := hB.t; omega) (fun x h => by have := hA.l x h; omega) (fun x h => by have := hB.l x h; omega)).le (args' := [.sl false 1 A.to.length (rowsL A.to), .sl false 1 B.to.length (rowsL B.to), .flat (.func (.func 67) #[] #[])]) ⟨Le.refl _, Le.refl _, le_clo8 _, trivial⟩ (Le.refl _)
  unfold eqB
  generalize decide (A.ranks = B.ranks) = b1 at *
  generalize decide (A.final = B.final) = b2 at *
  generalize decide (A.to = B.to) = b3 at *
  clear hA hB
  obtain ⟨rs, fs, tt⟩ := A
  obtain ⟨rs2, fs2, tt2⟩ := B
  simp only [auD_mk] at *
  generalize (rs.map fun x => D.flat (.int .i64 x)) = LR at *
  generalize (fs.map fun x => D.flat (.bool x)) = LB at *
  generalize rowsL tt = LT at *
  generalize (rs2.map fun x => D.flat (.int .i64 x)) = LR2 at *
  generalize (fs2.map fun x => D.flat (.bool x)) = LB2 at *
  generalize rowsL tt2 = LT2 at *
  refine DFun.enterA Try.func32 Try.ntmps32 ?_
  cases b1 with
  | false =>
    rw [Bool.false_and]
    refine DW.walk ?_
    exact ⟨.inr rfl, ResOk.one [] rfl rfl trivial (Vw.pers rfl)⟩
  | true =>
    rw [Bool.true_and]
    cases b2 with
    | false =>
      rw [Bool.false_and]
      refine DW.walk ?_
      exact ⟨.inr rfl, ResOk.one [] rfl rfl trivial (Vw.pers rfl)⟩
    | true =>
      rw [Bool.true_and]
      refine DW.walk ?_
      exact ⟨.inr rfl, ResOk.one [] rfl rfl trivial (Vw.pers rfl)⟩
end Go.Proofs.Ytichhfbkhnimmaa

set_option linter.unusedSimpArgs false
set_option linter.unusedVariables false
set_option maxHeartbeats 4000000
set_option maxRecDepth 8000
namespace Go.Proofs.Ytichhfbkhnimmaa
open Go Go.RowKit Go.PP Go.Dm Go.Rt Go.Mn
theorem splice_set {cs : List D} {i : Nat} {x : D} (h : i < cs.length) : spliceD cs i [x] = cs.set i x := by
  rw [List.set_eq_take_append_cons_drop, if_pos h]
  simp [spliceD]
theorem isB_set {n i : Nat} (hi : i < n) (out : List Int) : spliceD ((isB n out).map fun x => D.flat (.bool x)) i [.flat (.bool true)] = (isB n (out ++ [(i : Int)])).map fun x => D.flat (.bool x) := by
  have hl : ((isB n out).map fun x => D.flat (.bool x)).length = n := by simp [isB_len]
  rw [splice_set (by omega)]
  refine List.ext_getElem? fun j => ?_
  rw [List.getElem?_set, List.getElem?_map, List.getElem?_map]
  by_cases hij : i = j
  · subst hij
    rw [if_pos rfl, if_pos (by omega), isB_get hi]
    simp
  · rw [if_neg hij]
    by_cases hj : j < n
    · rw [isB_get hj, isB_get hj]
      have : ¬ (j : Int) = (i : Int) := by omega
      simp [this]
    · rw [List.getElem?_eq_none (by rw [isB_len]; omega), List.getElem?_eq_none (by rw [isB_len]; omega)]
theorem lendLe {P : Program} {k : FuncId} {args args' : List D} {pe we : Sg} {d d' : D} (h : DLend P k args pe we d) (ha : LeL args' args) (hd : Le d d') : DLend P k args' pe we d' := .intro fun M0 g w vals hM hh hv hgl => by
  refine (h.go M0 g w vals hM hh (LeL.rep (fun b hb => ?_) ha hv) hgl).mono fun e w' ⟨v, g', h1, h2, h3, h4, h5, h6⟩ => ⟨v, g', h1, h2, h3, h4, h5, hd _ _ _ _ (fun b hb => ?_) h6⟩
  · rcases hb with hb | ⟨id, hb⟩
    · exact hM b hb
    · exact (hh.new id b hb).1
  · rcases hb with hb | ⟨id, hb⟩
    · exact Nat.lt_of_lt_of_le (hM b hb) h2.size
    · exact (h4.new id b hb).1
def fnB (A : Au) (out : List Int) : Sg := [(54526080000003, some (.box [.own 54526080000004 A.final.length])), (54526080000004, some (.row 4 1 A.final.length ((isB A.final.length out).map fun x => D.flat (.bool x)))), (54526080000005, some (.box [.own 54526080000006 out.length])), (54526080000006, some (.row 3 1 out.length (out.map fun x => D.flat (.int .i64 x))))]
def lsB (A : Au) (sym : Int) (n : Nat) (of : List Int) : Sg := [(53687091200003, some (.box [.flat (.int .i64 ((n : Nat) : Int))])), (53687091200004, some (.box [.sl false 1 of.length (of.map fun x => D.flat (.int .i64 x))])), (53687091200005, some (.box [.clo (.func 107) [] [.ptr (auC A) 0, .ptr [.flat (.int .i64 sym)] 0, .ref 54526080000003 0, .ref 54526080000005 0]])),
  (53687091200006, some (.box [.clo (.func 124) [] [.ref 53687091200003 0, .ref 53687091200005 0, .ref 53687091200004 0, .ref 53687091200006 0]]))]
theorem found1_d (A : Au) (hok : AuOk A) (sym : Int) (l : List Int) (hf : Fits A sym l) (out : List Int) (ho : out.length ≤ 1000000) :
    DLend Try.prog 107 [.sl false 1 l.length (l.map fun x => D.flat (.int .i64 x)), .ptr (auC A) 0, .ptr [.flat (.int .i64 sym)] 0, .ref 54526080000003 0, .ref 54526080000005 0] (fnB A out) (fnB A (stepAdd A sym out l)) (.tup []) := by
  obtain ⟨i, hi, hin⟩ : ∃ i : Nat, atI A sym l = (i : Int) ∧ i < A.final.length := by
    have h := atE_bd hok hf
    exact ⟨(atI A sym l).toNat, by omega, by omega⟩
  have hat := at_d A hok sym l hf
  rw [hi] at hat
  have hp := part_b (isB_get hin out)
  have hlen : ((isB A.final.length out).map fun x => D.flat (.bool x)).length = A.final.length := by simp [isB_len]
  have hpo := pers_i out
  have hpl := pers_i l
  unfold fnB
  rw [auD_eq] at hat
  rw [auC_eq]
  generalize (A.ranks.map fun x => D.flat (.int .i64 x)) = LR at *
  generalize (A.final.map fun x => D.flat (.bool x)) = LB at *
  generalize rowsL A.to = LT at *
  generalize (l.map fun x => D.flat (.int .i64 x)) = LL at *
  by_cases hm : (i : Int) ∈ out
  · have hst : stepAdd A sym out l = out := by unfold stepAdd; rw [hi, if_pos hm]
    rw [decide_eq_true hm] at hp
    rw [hst]
    have hpb := pers_b (isB A.final.length out)
    generalize ((isB A.final.length out).map fun x => D.flat (.bool x)) = LI at *
    generalize (out.map fun x => D.flat (.int .i64 x)) = LO at *
    clear hf hok hi hm hst
    refine DLend.enterA Try.func107 Try.ntmps107 ?_
    refine DW.walk ?_
    exact ⟨.inl rfl, ResL.unitA⟩
  · have hst : stepAdd A sym out l = out ++ [(i : Int)] := by unfold stepAdd; rw [hi, if_neg hm]
    rw [decide_eq_false hm] at hp
    have hset : List.take (i * 1) ((isB A.final.length out).map fun x => D.flat (.bool x)) ++ [D.flat (.bool true)] ++ List.drop (i * 1 + 1) ((isB A.final.length out).map fun x => D.flat (.bool x)) = (isB A.final.length (out ++ [(i : Int)])).map fun x => D.flat (.bool x) := by
      rw [Nat.mul_one]
      exact isB_set hin out
    have ho2 : (out.map fun x => D.flat (.int .i64 x)) ++ [.flat (.int .i64 (i : Int))] = ((out ++ [(i : Int)]).map fun x => D.flat (.int .i64 x)) := by simp
    have hpo2 := pers_i (out ++ [(i : Int)])
    have hol : (out ++ [(i : Int)]).length = out.length + 1 := by simp
    rw [hst]
    have hpb := pers_b (isB A.final.length (out ++ [(i : Int)]))
    have hpb0 := pers_b (isB A.final.length out)
    rw [hol]
    generalize ((isB A.final.length (out ++ [(i : Int)])).map fun x => D.flat (.bool x)) = LI2 at *
    generalize ((isB A.final.length out).map fun x => D.flat (.bool x)) = LI at *
    generalize ((out ++ [(i : Int)]).map fun x => D.flat (.int .i64 x)) = LO2 at *
    generalize (out.map fun x => D.flat (.int .i64 x)) = LO at *
    clear hf hok hi hm hst hol
    refine DLend.enterA Try.func107 Try.ntmps107 ?_
    refine DW.walk ?_
    exact ⟨.inl rfl, ResL.unitA⟩
theorem oneL_ints (l : List Int) : oneL (l.map fun x => D.flat (.int .i64 x)) = true := oneL_map (fun _ => rfl) _
theorem cloneW_d (id : Nat) (hid : id = 23 ∨ id = 20) (l : List Int) (hl : l.length ≤ 1000000) :
    DLend Try.prog 78 [.sl false 1 l.length (l.map fun x => D.flat (.int .i64 x))] [(id, none)] [(id, some (.row 3 1 l.length (l.map fun x => D.flat (.int .i64 x))))] (.own id l.length) := by
  have h5 := IdAt.of 5 id
  have ho := oneL_ints l
  have hp := pers_i l
  by_cases h0 : l = []
  · subst h0
    rcases hid with rfl | rfl
    all_goals
      refine DLend.enterA Try.func78 Try.ntmps78 ?_
      refine DW.adj ?_
      refine DW.flatten 0 rfl ?_
      intro a cap
      cases a with
      | none =>
        refine DW.walk ?_
        exact ⟨_, Sub.adoptA h5 2 3 1, .inr rfl, ResL.oneA⟩
      | some a =>
        refine DW.walk ?_
        exact ⟨_, Sub.refl _ _, .inr rfl, ResL.oneA⟩
  · have : 0 < l.length := List.length_pos_iff.2 h0
    rcases hid with rfl | rfl
    all_goals
      refine DLend.enterA Try.func78 Try.ntmps78 ?_
      refine DW.walk ?_
      exact ⟨.inr rfl, ResL.oneA⟩
theorem cloneO_d (l : List Int) (hl : l.length ≤ 1000000) :
    DLend Try.prog 78 [.own 54526080000006 l.length] [(20, none), (54526080000006, some (.row 3 1 l.length (l.map fun x => D.flat (.int .i64 x))))] [(20, some (.row 3 1 l.length (l.map fun x => D.flat (.int .i64 x)))), (54526080000006, some (.row 3 1 l.length (l.map fun x => D.flat (.int .i64 x))))] (.own 20 l.length) := by
  have h5 := IdAt.of 5 20
  have ho := oneL_ints l
  have hp := pers_i l
  by_cases h0 : l = []
  · subst h0
    refine DLend.enterA Try.func78 Try.ntmps78 ?_
    refine DW.adj ?_
    refine DW.flattenO 0 rfl ?_
    intro a cap
    cases a with
    | none =>
      refine DW.walk ?_
      exact ⟨_, Sub.adoptA h5 2 3 1, .inr rfl, ResL.oneA⟩
    | some a =>
      refine DW.walk ?_
      exact ⟨_, Sub.refl _ _, .inr rfl, ResL.oneA⟩
  · have : 0 < l.length := List.length_pos_iff.2 h0
    refine DLend.enterA Try.func78 Try.ntmps78 ?_
    refine DW.walk ?_
    exact ⟨.inr rfl, ResL.oneA⟩
theorem lists1_d (A : Au) (hok : AuOk A) (sym : Int) (hs0 : 0 ≤ sym) (hs1 : sym < A.ranks.length) (n : Nat) (hn : A.ranks.getD sym.toNat 0 = (n : Int)) (hn2 : n ≤ 2) (of : List Int) (hof : ∀ x ∈ of, 0 ≤ x ∧ x < (A.final.length : Int)) (hofl : of.length ≤ 512) :
    ∀ (m : Nat) (l : List Int), l.length + m = n → (∀ x ∈ l, 0 ≤ x ∧ x < (A.final.length : Int)) → ∀ (out : List Int), OutOk A out →
    DLend Try.prog 124 [.sl false 1 l.length (l.map fun x => D.flat (.int .i64 x)), .ref 53687091200003 0, .ref 53687091200005 0, .ref 53687091200004 0, .ref 53687091200006 0] (fnB A out ++ lsB A sym n of) (fnB A (addAll A sym (enumL of m l) out) ++ lsB A sym n of) (.tup []) := by
  intro m
  induction m with
  | zero =>
    intro l hl hr out ho
    have hf : Fits A sym l := ⟨hs0, hs1, by omega, hr⟩
    have hlen := ho.len
    have hA := hok.hi
    have hc := found1_d A hok sym l hf out (by omega)
    have hgl : out.length ≤ (stepAdd A sym out l).length := by unfold stepAdd; split <;> simp
    have hst : addAll A sym (enumL of 0 l) out = stepAdd A sym out l := rfl
    rw [hst]
    unfold fnB lsB at *
    refine DLend.enterA Try.func124 Try.ntmps124 ?_
    have q1 := pers_b (isB A.final.length out)
    have q2 := pers_i out
    have q3 := pers_b (isB A.final.length (stepAdd A sym out l))
    have q4 := pers_i (stepAdd A sym out l)
    have q5 := pers_i l
    have q6 := pers_i of
    refine DW.walk ?_
    exact ⟨.inr rfl, ResL.unitA⟩
  | succ m ih =>
    intro l hl hr out ho
    have hA := hok.hi
    have hok2 : ∀ j, OutOk A (addAll A sym ((of.take j).flatMap fun s => enumL of m (l ++ [s])) out) := fun j => by
      refine OutOk.all hok (fun x hx => ?_) ho
      obtain ⟨y, hy, hx⟩ := List.mem_flatMap.1 hx
      refine enumL_fits hs0 hs1 hof m (l ++ [y]) (by rw [hn]; simp; omega) (fun z hz => ?_) x hx
      rcases List.mem_append.1 hz with hz | hz
      · exact hr z hz
      · simp at hz; subst hz; exact hof _ (List.mem_of_mem_take hy)
    have hmono : out.length ≤ (addAll A sym (enumL of (m + 1) l) out).length := by
      generalize enumL of (m + 1) l = ls
      clear hok2 ho
      induction ls generalizing out with
      | nil => exact Nat.le_refl _
      | cons x r ihr => exact Nat.le_trans (by unfold stepAdd; split <;> simp) (ihr (stepAdd A sym out x))
    have hfin : addAll A sym (enumL of (m + 1) l) out = addAll A sym ((of.take of.length).flatMap fun s => enumL of m (l ++ [s])) out := by rw [List.take_length]; rfl
    unfold fnB lsB
    refine DLend.enterA Try.func124 Try.ntmps124 ?_
    refine DW.walk ?_
    refine DW.loopA (fun j : Nat => ⟨[(0, .sl false 1 l.length (l.map fun x => D.flat (.int .i64 x))), (1, .ref 53687091200003 0), (2, .ref 53687091200005 0), (3, .ref 53687091200004 0), (4, .ref 53687091200006 0), (15, .sl false 1 of.length (of.map fun x => D.flat (.int .i64 x))), (16, .flat (.int .i64 ((of.length : Nat) : Int))), (17, .flat (.int .i64 ((j : Nat) : Int)))],
      fnB A (addAll A sym ((of.take j).flatMap fun s => enumL of m (l ++ [s])) out) ++ lsB A sym n of⟩) (fun j => j ≤ of.length) (fun j => of.length - j) 0 ?_ (by omega) (by unfold fnB lsB; exact Sub.auto)
    intro j hj
    rcases Nat.lt_or_ge j of.length with hlt | hge
    · obtain ⟨y, hy⟩ : ∃ y, of[j]? = some y := ⟨of[j], by simp⟩
      have hp := part_i hy
      have hc := cloneW_d 23 (.inl rfl) l (by omega)
      have hyr := hof y (List.mem_of_getElem? hy)
      have hi := ih (l ++ [y]) (by simp; omega) (fun z hz => by
        rcases List.mem_append.1 hz with hz | hz
        · exact hr z hz
        · simp at hz; subst hz; exact hyr) _ (hok2 j)
      have hnext : addAll A sym (enumL of m (l ++ [y])) (addAll A sym ((of.take j).flatMap fun s => enumL of m (l ++ [s])) out) = addAll A sym ((of.take (j + 1)).flatMap fun s => enumL of m (l ++ [s])) out := by
        rw [← addAll_app, List.take_add_one, hy]; simp
      have he : D.sl false 1 (l ++ [y]).length ((l ++ [y]).map fun x => D.flat (.int .i64 x)) = .sl false 1 (l.length + 1) (l.map (fun x => D.flat (.int .i64 x)) ++ [.flat (.int .i64 y)]) := by simp
      rw [hnext, he] at hi
      unfold fnB lsB at hi
      unfold fnB lsB
      refine DW.walk ?_
      refine DC.t (T.lendC (ar := [_]) (ds' := [_]) [(23, some (.row 3 1 (l.length + 1) (l.map (fun x => D.flat (.int .i64 x)) ++ [.flat (.int .i64 y)])))] EntC.h hi rfl
        (by exact ⟨Vg.give (fun id h => by simp [keys] at h; subst h; rfl) (Vw.own (List.mem_cons_self ..) (VwL.pers (persL_append (persL_map (fun _ => rfl) _) rfl))), Vg.of (Vl.ref rfl), Vg.of (Vl.ref rfl), Vg.of (Vl.ref rfl), Vg.of (Vl.ref rfl), trivial⟩) rfl rfl rfl (dis_of rfl)
        (EsG.of ⟨⟨Vl.own rfl, trivial⟩, VlL.pers (persL_map (fun _ => rfl) _), ⟨Vl.own rfl, trivial⟩, VlL.pers (persL_map (fun _ => rfl) _), VlL.pers rfl, VlL.pers rfl, ⟨Vl.clo trivial ⟨Vl.pers rfl, Vl.pers rfl, Vl.ref rfl, Vl.ref rfl, trivial⟩, trivial⟩, ⟨Vl.clo trivial ⟨Vl.ref rfl, Vl.ref rfl, Vl.ref rfl, Vl.ref rfl, trivial⟩, trivial⟩, trivial⟩)) ⟨rfl, rfl, trivial⟩ ⟨rfl, rfl, rfl, rfl, rfl, rfl, rfl, rfl, rfl, trivial⟩ ?_
      refine DC.walk ?_
      exact ⟨j + 1, by omega, by omega, Sub.auto⟩
    · have : j = of.length := by omega
      subst this
      rw [hfin]
      unfold fnB lsB
      refine DW.walk ?_
      exact ⟨.inl rfl, ResL.unitA⟩
theorem addAll_mono (A : Au) (s : Int) : ∀ (ls : List (List Int)) (out : List Int), out.length ≤ (addAll A s ls out).length
  | [], out => Nat.le_refl _
  | x :: r, out => Nat.le_trans (by unfold stepAdd; split <;> simp) (addAll_mono A s r (stepAdd A s out x))
theorem lists_d (A : Au) (hok : AuOk A) (sym : Int) (hs0 : 0 ≤ sym) (hs1 : sym < A.ranks.length) (n : Nat) (hn : A.ranks.getD sym.toNat 0 = (n : Int)) (hn2 : n ≤ 2) (of : List Int) (hof : ∀ x ∈ of, 0 ≤ x ∧ x < (A.final.length : Int)) (hofl : of.length ≤ 512) (out : List Int) (ho : OutOk A out) :
    DLend Try.prog 106 [.flat (.int .i64 ((n : Nat) : Int)), .sl false 1 of.length (of.map fun x => D.flat (.int .i64 x)), .clo (.func 107) [] [.ptr (auC A) 0, .ptr [.flat (.int .i64 sym)] 0, .ref 54526080000003 0, .ref 54526080000005 0]] (fnB A out) (fnB A (addAll A sym (enumL of n []) out)) (.tup []) := by
  have hi := lendLe (args' := [.flat (.slice none 0 0), .ref 53687091200003 0, .ref 53687091200005 0, .ref 53687091200004 0, .ref 53687091200006 0]) (lists1_d A hok sym hs0 hs1 n hn hn2 of hof hofl n [] (by simp) (by simp) out ho) ⟨Le.nil _ _, Le.refl _, Le.refl _, Le.refl _, Le.refl _, trivial⟩ (Le.refl _)
  have q1 := pers_b (isB A.final.length out)
  have q2 := pers_i out
  have q3 := pers_b (isB A.final.length (addAll A sym (enumL of n []) out))
  have q4 := pers_i (addAll A sym (enumL of n []) out)
  have hmono := addAll_mono A sym (enumL of n []) out
  have h3 := IdAt.of 3 53687091200003
  have h4 := IdAt.of 4 53687091200004
  have h5 := IdAt.of 5 53687091200005
  have h6 := IdAt.of 6 53687091200006
  have hpo := pers_i of
  unfold fnB lsB at hi
  unfold fnB
  refine DLend.enterA Try.func106 Try.ntmps106 ?_
  refine DW.walk ?_
  exact ⟨.inl rfl, ResL.unitA⟩
end Go.Proofs.Ytichhfbkhnimmaa

set_option linter.unusedSimpArgs false
set_option linter.unusedVariables false
set_option maxHeartbeats 4000000
set_option maxRecDepth 8000
namespace Go.Proofs.Ytichhfbkhnimmaa
open Go Go.RowKit Go.PP Go.Dm Go.Rt Go.Mn
theorem found_d (A : Au) (hok : AuOk A) : DFun Try.prog 70 [auD A] (.sl false 1 (foundA A).length ((foundA A).map fun x => D.flat (.int .i64 x))) := by
  have h3 := IdAt.of 3 54526080000005
  have h12 := IdAt.of 12 54526080000004
  have h4 := IdAt.of 4 54526080000003
  have hn := hok.hi
  have hrl := hok.alpha.hi
  have hz : List.replicate A.final.length (D.flat (.bool false)) = (isB A.final.length []).map fun x => D.flat (.bool x) := by
    refine List.ext_getElem? fun i => ?_
    rw [List.getElem?_map]
    by_cases hi : i < A.final.length
    · rw [isB_get hi]; simp [hi]
    · rw [List.getElem?_eq_none (by simp; omega), List.getElem?_eq_none (by rw [isB_len]; omega)]; rfl
  have hlsA := fun (j : Nat) (hlt : j < A.ranks.length) (out0 : List Int) (h1 : ∀ x ∈ out0, 0 ≤ x ∧ x < (A.final.length : Int)) (h2 : out0.length ≤ 512) (out : List Int) (ho : OutOk A out) => by
    obtain ⟨r1, r2, r3⟩ := rank_at hok hlt
    exact lists_d A hok j (by omega) (by omega) _ r3 r2 out0 h1 h2 out ho
  have hpr : ∀ (i : Nat) (x : Int), A.ranks[i]? = some x → partD false 1 (i * 1) (A.ranks.map fun x => D.flat (.int .i64 x)) = some (.flat (.int .i64 x)) := fun i x h => part_i h
  rw [auD_eq]
  unfold fnB at hlsA
  rw [auC_eq] at hlsA
  generalize (A.ranks.map fun x => D.flat (.int .i64 x)) = LR at *
  generalize (A.final.map fun x => D.flat (.bool x)) = LB at *
  generalize rowsL A.to = LT at *
  refine DFun.enterA Try.func70 Try.ntmps70 ?_
  refine DW.walk ?_
  refine DW.adoptBox 54526080000005 0 54526080000006 3 1 rfl rfl rfl ?_
  refine DW.loopA (fun k : Nat => ⟨[(1, .ptr [.sl false 1 A.ranks.length LR, .sl false 1 A.final.length LB, .sl false 1 A.to.length LT] 0), (3, .ref 54526080000005 0), (4, .ref 54526080000003 0), (5, .flat (.int .i64 (wasK A k)))], fnB A (foundK A k)⟩)
    (fun k => ∀ j < k - 1, (foundK A j).length < (foundK A (j + 1)).length) (fun k => 2 * (A.final.length - (foundK A k).length) + if wasK A k < ((foundK A k).length : Nat) then 1 else 0) 0 ?_ (by omega) (by
      unfold fnB
      exact Sub.auto)
  intro k hk
  have hok1 := foundK_ok hok k
  have hlen := hok1.len
  have hok2 := foundK_ok hok (k + 1)
  have hlen2 := hok2.len
  have hpre : (foundK A k).length ≤ (foundK A (k + 1)).length := (roundA_pre A (foundK A k)).length_le
  by_cases hw : wasK A k < ((foundK A k).length : Nat)
  · have hgk : ∀ j < k, (foundK A j).length < (foundK A (j + 1)).length := fun j hj => by
      by_cases hj2 : j < k - 1
      · exact hk j hj2
      · cases k with
        | zero => omega
        | succ k =>
          have : j = k := by omega
          subst this
          have : wasK A (j + 1) = ((foundK A j).length : Nat) := rfl
          omega
    have hcl := cloneO_d (foundK A k) (by omega)
    have hw0 := hw
    generalize hwas : wasK A k = was at hw ⊢
    generalize hf : foundK A k = out at *
    have hpo := pers_i out
    have hpi := pers_b (isB A.final.length out)
    unfold fnB
    refine DW.walk ?_
    refine DW.loopA (fun j : Nat => ⟨[(1, .ptr [.sl false 1 A.ranks.length LR, .sl false 1 A.final.length LB, .sl false 1 A.to.length LT] 0), (3, .ref 54526080000005 0), (4, .ref 54526080000003 0), (5, .flat (.int .i64 ((out.length : Nat) : Int))), (6, .sl false 1 out.length (out.map fun x => D.flat (.int .i64 x))), (22, .sl false 1 A.ranks.length LR), (23, .flat (.int .i64 ((A.ranks.length : Nat) : Int))), (24, .flat (.int .i64 ((j : Nat) : Int)))], fnB A (roundP A out out j)⟩)
      (fun j => j ≤ A.ranks.length) (fun j => A.ranks.length - j) 0 ?_ (by omega) (by unfold fnB; exact Sub.auto)
    intro j hj
    have hokj := roundP_ok hok hok1.rng hok1 j hj
    have hlenj := hokj.len
    rcases Nat.lt_or_ge j A.ranks.length with hlt | hge
    · obtain ⟨r1, r2, r3⟩ := rank_at hok hlt
      have hp := hpr j _ r1
      have hls := hlsA j hlt out hok1.rng (by omega) (roundP A out out j) hokj
      rw [show addAll A j (enumL out (A.ranks.getD j 0).toNat []) (roundP A out out j) = roundP A out out (j + 1) from (roundP_succ ..).symm] at hls
      have hg : (roundP A out out j).length ≤ (roundP A out out (j + 1)).length := by rw [roundP_succ]; exact (addAll_pre ..).length_le
      unfold fnB at *
      have q1 := pers_b (isB A.final.length (roundP A out out j))
      have q2 := pers_i (roundP A out out j)
      have q3 := pers_b (isB A.final.length (roundP A out out (j + 1)))
      have q4 := pers_i (roundP A out out (j + 1))
      generalize (A.ranks.getD j 0).toNat = rk at *
      clear hlsA hpr hcl hk hgk hw0 hokj hok1 hok2 r1 r3
      refine DW.walkTo 10 ?_
      refine DW.sub (s' := ⟨[(1, .ptr [.sl false 1 A.ranks.length LR, .sl false 1 A.final.length LB, .sl false 1 A.to.length LT] 0), (3, .ref 54526080000005 0), (4, .ref 54526080000003 0), (5, .flat (.int .i64 ((out.length : Nat) : Int))), (6, .sl false 1 out.length (out.map fun x => D.flat (.int .i64 x))), (22, .sl false 1 A.ranks.length LR), (23, .flat (.int .i64 ((A.ranks.length : Nat) : Int))), (24, .flat (.int .i64 ((j : Nat) : Int))), (7, .ptr [.flat (.int .i64 ((j : Nat) : Int))] 0), (8, .flat (.int .i64 ((rk : Nat) : Int)))], [(54526080000003, some (.box [.own 54526080000004 A.final.length])), (54526080000004, some (.row 4 1 A.final.length ((isB A.final.length (roundP A out out j)).map fun x => D.flat (.bool x)))), (54526080000005, some (.box [.own 54526080000006 (roundP A out out j).length])), (54526080000006, some (.row 3 1 (roundP A out out j).length ((roundP A out out j).map fun x => D.flat (.int .i64 x))))]⟩) Sub.auto ?_
      refine DW.walk ?_
      exact ⟨j + 1, by omega, by omega, Sub.auto⟩
    · have hje : j = A.ranks.length := by omega
      subst hje
      have hfk : roundP A out out A.ranks.length = foundK A (k + 1) := by rw [← hf]; rfl
      rw [hfk]
      have hwk : wasK A (k + 1) = ((foundK A k).length : Nat) := rfl
      rw [hf] at hwk
      rw [hwas] at hw0
      have q2 := pers_i (foundK A (k + 1))
      have q3 := pers_b (isB A.final.length (foundK A (k + 1)))
      unfold fnB
      refine DW.walk ?_
      refine ⟨k + 1, fun i hi => hgk i (by omega), ?_, by rw [hwk]; exact Sub.auto⟩
      rw [hwk, if_pos hw]
      split <;> omega
  · have hk0 : ∃ k', k = k' + 1 := ⟨k - 1, by
      cases k with
      | zero => exact absurd (show wasK A 0 < ((foundK A 0).length : Nat) from by simp [wasK]; omega) hw
      | succ k => rfl⟩
    obtain ⟨k, rfl⟩ := hk0
    have hend := foundK_end hok (k := k) (fun i hi => hk i (by omega)) (by
      have : wasK A (k + 1) = ((foundK A k).length : Nat) := rfl
      omega)
    rw [hend] at hw ⊢
    generalize wasK A (k + 1) = was at *
    have q1 := pers_i (foundA A)
    unfold fnB
    refine DW.walk ?_
    exact ⟨.inr rfl, ResOk.one [(54526080000006, some (.row 3 1 (foundA A).length ((foundA A).map fun x => D.flat (.int .i64 x))))] rfl rfl ⟨rfl, trivial⟩ (Vw.own (List.mem_cons_self ..) (VwL.pers (persL_map (fun _ => rfl) _)))⟩
theorem isB_take {n : Nat} {l : List Int} {j : Nat} {i : Nat} (hi : i < n) (h : l[j]? = some (i : Int)) : List.take (i * 1) ((isB n (l.take j)).map fun x => D.flat (.bool x)) ++ [D.flat (.bool true)] ++ List.drop (i * 1 + 1) ((isB n (l.take j)).map fun x => D.flat (.bool x)) = (isB n (l.take (j + 1))).map fun x => D.flat (.bool x) := by
  rw [Nat.mul_one, List.take_add_one, h]
  exact isB_set hi (l.take j)
theorem reach_d (A : Au) (hA : Few A) : DFun Try.prog 98 [auD A] (.tup [.sl false 1 (reachE A).1.length ((reachE A).1.map fun x => D.flat (.bool x)), .flat (.int .i64 (((reachE A).2 : Nat) : Int))]) := by
  have hc := check_d A hA
  by_cases hk : chk A = 0
  · have hok := chk_ok hk
    have hfd := found_d A hok
    have ho := foundK_ok hok (A.final.length + 1)
    have hlen : (foundA A).length ≤ A.final.length := ho.len
    have hrng : ∀ x ∈ foundA A, 0 ≤ x ∧ x < (A.final.length : Int) := ho.rng
    have hn := hok.hi
    rw [reachE_ok hk]
    rw [hk] at hc
    have hpf : ∀ (i : Nat) (x : Int), (foundA A)[i]? = some x → partD false 1 (i * 1) ((foundA A).map fun x => D.flat (.int .i64 x)) = some (.flat (.int .i64 x)) := fun i x h => part_i h
    have hlf := pers_i (foundA A)
    have hz : List.replicate A.final.length (D.flat (.bool false)) = (isB A.final.length ((foundA A).take 0)).map fun x => D.flat (.bool x) := by
      refine List.ext_getElem? fun i => ?_
      rw [List.getElem?_map, List.take_zero]
      by_cases hi : i < A.final.length
      · rw [isB_get hi]; simp [hi]
      · rw [List.getElem?_eq_none (by simp; omega), List.getElem?_eq_none (by rw [isB_len]; omega)]; rfl
    have hset := fun (j i : Nat) (hi : i < A.final.length) (h : (foundA A)[j]? = some (i : Int)) => isB_take hi h
    have hil : ∀ j, ((isB A.final.length ((foundA A).take j)).map fun x => D.flat (.bool x)).length = A.final.length := fun j => by simp [isB_len]
    have hfull : (foundA A).take (foundA A).length = foundA A := List.take_length
    have hlb : (isB A.final.length (foundA A)).length = A.final.length := isB_len _ _
    generalize foundA A = F at *
    have hc : DFun Try.prog 47 [auD A] (.flat (.int .i64 0)) := hc
    rw [auD_eq] at *
    have hLB := pers_b A.final
    have hLT := pers_r A.to
    have hLR := pers_i A.ranks
    generalize (A.ranks.map fun x => D.flat (.int .i64 x)) = LR at *
    generalize (A.final.map fun x => D.flat (.bool x)) = LB at *
    generalize rowsL A.to = LT at *
    generalize (F.map fun x => D.flat (.int .i64 x)) = LF at *
    show DFun Try.prog 98 _ (.tup [.sl false 1 (isB A.final.length F).length ((isB A.final.length F).map fun x => D.flat (.bool x)), .flat (.int .i64 0)])
    rw [hlb]
    clear ho hok hk
    refine DFun.enterA Try.func98 Try.ntmps98 ?_
    refine DW.walk ?_
    refine DW.loopA (fun j : Nat => ⟨[(5, .own 16 A.final.length), (18, .sl false 1 F.length LF), (19, .flat (.int .i64 ((F.length : Nat) : Int))), (20, .flat (.int .i64 ((j : Nat) : Int)))], [(16, some (.row 4 1 A.final.length ((isB A.final.length (F.take j)).map fun x => D.flat (.bool x))))]⟩) (fun j => j ≤ F.length) (fun j => F.length - j) 0 ?_ (Nat.zero_le _)
    intro j hj
    have q1 := hil j
    have q2 := pers_b (isB A.final.length (F.take j))
    have q3 := pers_b (isB A.final.length (F.take (j + 1)))
    rcases Nat.lt_or_ge j F.length with hlt | hge
    · obtain ⟨x, hx⟩ : ∃ x, F[j]? = some x := ⟨_, List.getElem?_eq_getElem hlt⟩
      obtain ⟨x0, x1⟩ := hrng x (List.mem_of_getElem? hx)
      obtain ⟨i, rfl⟩ := Int.eq_ofNat_of_zero_le x0
      have hp := hpf j _ hx
      have hs := hset j i (by omega) hx
      clear hpf hset hil hrng hx hz hfull
      generalize hG : ((isB A.final.length (F.take (j + 1))).map (fun x => D.flat (.bool x))) = G at *
      generalize ((isB A.final.length (F.take j)).map (fun x => D.flat (.bool x))) = H at *
      refine DW.walk ?_
      exact ⟨j + 1, by omega, by omega, by rw [hG]; exact Sub.auto⟩
    · obtain rfl : j = F.length := by omega
      rw [hfull] at *
      clear hpf hset hil hrng hz
      refine DW.walk ?_
      exact ⟨.inr rfl, ResOk.two [(16, some (.row 4 1 A.final.length ((isB A.final.length F).map fun x => D.flat (.bool x))))] rfl rfl rfl ⟨rfl, trivial⟩ (Vw.own (List.mem_cons_self ..) (VwL.pers (persL_map (fun _ => rfl) _))) (Vw.pers rfl)⟩
  · rw [reachE_bad hk]
    generalize chk A = e at *
    rw [auD_eq] at *
    generalize (A.ranks.map fun x => D.flat (.int .i64 x)) = LR at *
    generalize (A.final.map fun x => D.flat (.bool x)) = LB at *
    generalize rowsL A.to = LT at *
    show DFun Try.prog 98 _ (.tup [.sl false 1 0 [], .flat (.int .i64 ((e : Nat) : Int))])
    refine DFun.enterA Try.func98 Try.ntmps98 ?_
    refine DW.walk ?_
    exact ⟨.inr rfl, ResOk.two [] rfl rfl rfl trivial (Vw.p rfl (Le.nil _ _)) (Vw.pers rfl)⟩
end Go.Proofs.Ytichhfbkhnimmaa
