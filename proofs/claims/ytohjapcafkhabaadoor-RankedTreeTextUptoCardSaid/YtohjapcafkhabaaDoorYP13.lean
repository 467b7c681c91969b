/- Contracts over data: a text that is no tree. No condition. -/
import Derived.Test.YtohjapcafkhabaaDoorYP5
import Derived.Test.YtohjapcafkhabaaDoorYTE
import Derived.Test.YtohjapcafkhabaaDoorYV4a
import Derived.Test.YtohjapcafkhabaaDoorYNR

set_option linter.unusedSimpArgs false
set_option linter.unusedVariables false
set_option maxHeartbeats 4000000
set_option maxRecDepth 8000
namespace Go.Proofs.YtohjapcafkhabaaDoor
open Go Go.RowKit Go.PP Go.Dm Go.Rt
theorem parse_fail0 (s r : List UInt8) (n : Int) (hnum : DFun Tryd.prog 62 [strD s] (.tup [.flat (.int .i64 n), strD r, .flat (.bool false)])) : DFun Tryd.prog 41 [strD s] (.tup [treeD (.node 0 []), strD [], .flat (.bool false)]) := by
  refine DFun.enterA Tryd.func41 Tryd.ntmps41 ?_
  refine DW.walk ?_
  exact ⟨.inr rfl, ResOk.cellTmp2A [] rfl rfl rfl TyI.ag TyI.sz rfl rfl trivial (.cons (Vw.pers rfl) (.cons (Vw.p rfl (Le.nil _ _)) .nil)) (Le.of_eq (by rw [treeD_node, treesD, kidsC_nil]; rfl)) (Vw.pers rfl) (Vw.pers rfl)⟩
theorem parse_failk (s : List UInt8) (n : Int) (m : Nat) (hm : m = 0 ∨ m = 1) (S : Nat → List UInt8) (Ts : List Tr) (hT : Ts.length = m) (hS : ∀ i, i ≤ m → 1 ≤ (S i).length ∧ (S i).length ≤ 1000000)
    (hnum : DFun Tryd.prog 62 [strD s] (.tup [.flat (.int .i64 n), strD (S 0), .flat (.bool true)]))
    (h40 : ∀ i, i ≤ m → DFun Tryd.prog 63 [strD (S i), strD [40]] (.flat (.bool (decide (i = 0)))))
    (h44 : m = 1 → DFun Tryd.prog 63 [strD (S 1), strD [44]] (.flat (.bool true)))
    (hp : ∀ i t, Ts[i]? = some t → DFun Tryd.prog 41 [strD (List.drop 1 (S i))] (.tup [treeD t, strD (S (i + 1)), .flat (.bool true)]))
    (t' : Tr) (r' : List UInt8) (ok' : Bool) (hq : DFun Tryd.prog 41 [strD (List.drop 1 (S m))] (.tup [treeD t', strD r', .flat (.bool ok')])) (hbad : ok' = false ∨ (ok' = true ∧ DFun Tryd.prog 63 [strD r', strD [40]] (.flat (.bool true)))) : DFun Tryd.prog 41 [strD s] (.tup [treeD (.node 0 []), strD [], .flat (.bool false)]) := by
  have h0 := h40 0 (Nat.zero_le _)
  rw [decide_eq_true rfl] at h0
  refine DFun.enterA Tryd.func41 Tryd.ntmps41 ?_
  refine DW.walkTo 5 ?_
  refine DW.adoptBox 7 1 107 29 2 rfl rfl rfl ?_
  refine DW.walk ?_
  refine DW.loopA (fun i : Nat => ⟨[(0, strD (S i)), (2, .ref 2 0), (3, strD []), (4, .flat (.bool false)), (7, .ref 7 0)], [(2, some (.box [.flat (.int .i64 0), .flat (.slice none 0 0)])), (7, some (.box [.flat (.int .i64 n), .own 107 i])), (107, some (.row 29 2 i (kidsC (Ts.take i))))]⟩) (fun i => i ≤ m) (fun i => m - i) 0 ?_ (Nat.zero_le _) (by
    rw [List.take_zero, kidsC_nil]
    exact Sub.auto)
  intro i hi
  clear h0 hnum
  rcases Nat.lt_or_ge i m with hlt | hge
  · obtain ⟨t, ht⟩ : ∃ t, Ts[i]? = some t := ⟨_, List.getElem?_eq_getElem (by omega)⟩
    have hpi := hp i t ht
    have hsn := (kidsC_snoc ht).symm
    have hl := hS i hi
    have hl1 := hl.1
    have hl2 := hl.2
    have h1 := h40 (i + 1) (by omega)
    rw [decide_eq_false (by omega)] at h1
    have h2 := h40 i (by omega)
    rw [decide_eq_true (by omega)] at h2
    obtain ⟨s', l'⟩ := t
    rw [treeC_node] at hsn
    rw [treeD_node] at hpi
    clear hp ht hS hl h40 h44 hT hq hbad
    refine DW.walk ?_
    exact ⟨i + 1, by omega, by omega, Sub.auto⟩
  · obtain rfl : m = i := by omega
    have hl := hS m hi
    have hl1 := hl.1
    have hl2 := hl.2
    have hkp := kidsC_pers (Ts.take m)
    generalize kidsC (Ts.take m) = ks at *
    obtain ⟨s', l'⟩ := t'
    rw [treeD_node] at hq
    have hkl := kidsC_pers l'
    rcases hm with rfl | rfl
    · have h2 := h40 0 (by omega)
      rw [decide_eq_true rfl] at h2
      clear hp hS hl h40 h44 hT
      rcases hbad with rfl | ⟨rfl, h3⟩
      · refine DW.walk ?_
        exact ⟨.inr rfl, ResOk.cellTmp2A [] rfl rfl rfl TyI.ag TyI.sz rfl rfl trivial (.cons (Vw.pers rfl) (.cons (Vw.p rfl (Le.nil _ _)) .nil)) (Le.of_eq (by rw [treeD_node, treesD, kidsC_nil]; rfl)) (Vw.pers rfl) (Vw.pers rfl)⟩
      · refine DW.walk ?_
        exact ⟨.inr rfl, ResOk.cellTmp2A [] rfl rfl rfl TyI.ag TyI.sz rfl rfl trivial (.cons (Vw.pers rfl) (.cons (Vw.p rfl (Le.nil _ _)) .nil)) (Le.of_eq (by rw [treeD_node, treesD, kidsC_nil]; rfl)) (Vw.pers rfl) (Vw.pers rfl)⟩
    · have h2 := h40 1 (by omega)
      rw [decide_eq_false (by omega)] at h2
      have h4 := h44 rfl
      clear hp hS hl h40 h44 hT
      rcases hbad with rfl | ⟨rfl, h3⟩
      · refine DW.walk ?_
        exact ⟨.inr rfl, ResOk.cellTmp2A [] rfl rfl rfl TyI.ag TyI.sz rfl rfl trivial (.cons (Vw.pers rfl) (.cons (Vw.p rfl (Le.nil _ _)) .nil)) (Le.of_eq (by rw [treeD_node, treesD, kidsC_nil]; rfl)) (Vw.pers rfl) (Vw.pers rfl)⟩
      · refine DW.walk ?_
        exact ⟨.inr rfl, ResOk.cellTmp2A [] rfl rfl rfl TyI.ag TyI.sz rfl rfl trivial (.cons (Vw.pers rfl) (.cons (Vw.p rfl (Le.nil _ _)) .nil)) (Le.of_eq (by rw [treeD_node, treesD, kidsC_nil]; rfl)) (Vw.pers rfl) (Vw.pers rfl)⟩
end Go.Proofs.YtohjapcafkhabaaDoor

set_option linter.unusedSimpArgs false
set_option linter.unusedVariables false
set_option maxHeartbeats 4000000
set_option maxRecDepth 8000
namespace Go.Proofs.YtohjapcafkhabaaDoor
open Go Go.RowKit Go.PP Go.Dm Go.Rt
theorem hasT {c : UInt8} {s : List UInt8} (hs : s.length ≤ 1000000) (h : s.head? = some c) : DFun Tryd.prog 63 [strD s, strD [c]] (.flat (.bool true)) := by
  have := hasp_d c s hs
  rwa [decide_eq_true h] at this
theorem hasF {c : UInt8} {s : List UInt8} (hs : s.length ≤ 1000000) (h : s.head? ≠ some c) : DFun Tryd.prog 63 [strD s, strD [c]] (.flat (.bool false)) := by
  have := hasp_d c s hs
  rwa [decide_eq_false h] at this
theorem cutA_len (c : UInt8) (s : List UInt8) : (cutA c s).length ≤ s.length := by
  unfold cutA
  split
  · rw [List.length_tail]; omega
  · exact Nat.le_refl _
theorem text1 (n : Int) (t : Tr) : textT Lib.itoa (.node n [t]) = Lib.itoa n ++ (40 :: (textT Lib.itoa t ++ [41])) := by
  rw [textT, if_neg (by simp)]
  simp [textL]
theorem text2 (n : Int) (t u : Tr) : textT Lib.itoa (.node n [t, u]) = Lib.itoa n ++ (40 :: (textT Lib.itoa t ++ (44 :: (textT Lib.itoa u ++ [41])))) := by
  rw [textT, if_neg (by simp)]
  simp [textL]
theorem text0 (n : Int) : textT Lib.itoa (.node n []) = Lib.itoa n := by
  rw [textT, if_pos rfl, List.append_nil]
theorem itoa_nat (m : Nat) : Lib.itoa (m : Int) = Lib.decDigits m := by
  unfold Lib.itoa
  first
    | rfl
    | simp
/-- What parse says, and that it is right. -/
def Par (s : List UInt8) (t : Tr) (r : List UInt8) (ok : Bool) : Prop :=
  DFun Tryd.prog 41 [strD s] (.tup [treeD t, strD r, .flat (.bool ok)]) ∧ (TSm t ∧ SymR t) ∧ r.length ≤ s.length ∧ (ok = true → s = textT Lib.itoa t ++ r)
theorem par_fail {s : List UInt8} (h : DFun Tryd.prog 41 [strD s] (.tup [treeD (.node 0 []), strD [], .flat (.bool false)])) : ∃ t r ok, Par s t r ok :=
  ⟨_, _, _, h, ⟨by simp [TSm, TSmL], by simp [SymR, SymRL]⟩, Nat.zero_le _, fun h => by cases h⟩
theorem parse_any : ∀ (n : Nat) (s : List UInt8), s.length ≤ n → s.length ≤ 1000000 → ∃ t r ok, Par s t r ok := by
  intro n
  induction n with
  | zero =>
    intro s h0 hs
    obtain rfl : s = [] := List.eq_nil_of_length_eq_zero (by omega)
    exact par_fail (parse_fail0 _ _ _ (number_bad hs (.inl (.inl rfl))))
  | succ n ih =>
    intro s hn hs
    by_cases hb : badN (digs s) ∨ 4 < (digs s).length
    · exact par_fail (parse_fail0 _ _ _ (number_bad hs hb))
    · have hnb : ¬ badN (digs s) := fun h => hb (.inl h)
      have hnum := number_ok hs hnb (by omega)
      have hdr := digs_rest s
      have hlen := congrArg List.length hdr
      rw [List.length_append] at hlen
      have hd0 : 0 < (digs s).length := List.length_pos_iff.2 fun e => hnb (.inl e)
      have hit : Lib.itoa ((valN (digs s) : Nat) : Int) = digs s := by
        rw [itoa_nat]
        exact Canon.dig _ (canon_of hnb)
      generalize valN (digs s) = N at *
      by_cases hv : (N : Int) < 4096
      · rw [decide_eq_true hv] at hnum
        have hsn : -9223372036854775808 ≤ (N : Int) ∧ (N : Int) ≤ 9223372036854775807 := by omega
        by_cases h40 : (rest s).head? = some 40
        · obtain ⟨R, hR⟩ : ∃ R, rest s = 40 :: R := by
            cases h : rest s with
            | nil => rw [h] at h40; cases h40
            | cons x y =>
              rw [h] at h40
              exact ⟨y, by rw [Option.some.inj h40]⟩
          rw [hR] at hnum hlen hdr
          rw [List.length_cons] at hlen
          obtain ⟨t1, r1, ok1, d1, g1, l1, e1⟩ := ih R (by omega) (by omega)
          have f0 : ok1 = false ∨ (ok1 = true ∧ DFun Tryd.prog 63 [strD r1, strD [40]] (.flat (.bool true))) → ∃ t r ok, Par s t r ok := fun hbad => par_fail (parse_failk s N 0 (.inl rfl) (fun _ => 40 :: R) [] rfl (fun i hi => ⟨by simp, by show (40 :: R).length ≤ _; rw [List.length_cons]; omega⟩) hnum (fun i hi => by
            obtain rfl : i = 0 := by omega
            exact hasT (by rw [List.length_cons]; omega) rfl) (fun h => by cases h) (fun i t h => by cases h) t1 r1 ok1 d1 hbad)
          cases ok1 with
          | false => exact f0 (.inl rfl)
          | true =>
            have e1 := e1 rfl
            by_cases h1 : r1.head? = some 40
            · exact f0 (.inr ⟨rfl, hasT (by omega) h1⟩)
            · by_cases h2 : r1.head? = some 44
              · obtain ⟨R1, hR1⟩ : ∃ R1, r1 = 44 :: R1 := by
                  cases h : r1 with
                  | nil => rw [h] at h2; cases h2
                  | cons x y =>
                    rw [h] at h2
                    exact ⟨y, by rw [Option.some.inj h2]⟩
                have hl1 : R1.length + 1 ≤ R.length := by rw [hR1, List.length_cons] at l1; exact l1
                obtain ⟨t2, r2, ok2, d2, g2, l2, e2⟩ := ih R1 (by omega) (by omega)
                have f1 : ok2 = false ∨ (ok2 = true ∧ DFun Tryd.prog 63 [strD r2, strD [40]] (.flat (.bool true))) → ∃ t r ok, Par s t r ok := fun hbad => par_fail (parse_failk s N 1 (.inr rfl) (fun i => if i = 0 then 40 :: R else r1) [t1] rfl (fun i hi => by
                  rcases (by omega : i = 0 ∨ i = 1) with rfl | rfl
                  · exact ⟨by simp, by show (40 :: R).length ≤ _; rw [List.length_cons]; omega⟩
                  · show 1 ≤ r1.length ∧ r1.length ≤ _
                    rw [hR1, List.length_cons]; omega) hnum (fun i hi => by
                  rcases (by omega : i = 0 ∨ i = 1) with rfl | rfl
                  · exact hasT (by show (40 :: R).length ≤ _; rw [List.length_cons]; omega) rfl
                  · exact hasF (by show r1.length ≤ _; omega) h1) (fun _ => hasT (by show r1.length ≤ _; omega) h2) (fun i t h => by
                  rcases i with _ | i
                  · obtain rfl := Option.some.inj h
                    exact d1
                  · rw [List.getElem?_cons_succ, List.getElem?_nil] at h
                    cases h) t2 r2 ok2 (by rw [show List.drop 1 (if 1 = 0 then 40 :: R else r1) = R1 by rw [hR1]; rfl]; exact d2) hbad)
                cases ok2 with
                | false => exact f1 (.inl rfl)
                | true =>
                  have e2 := e2 rfl
                  by_cases h3 : r2.head? = some 40
                  · exact f1 (.inr ⟨rfl, hasT (by omega) h3⟩)
                  · refine ⟨.node N [t1, t2], cutA 41 r2, decide (r2.head? = some 41), parse_kids s N 2 (.inr rfl) (fun i => if i = 0 then 40 :: R else if i = 1 then r1 else r2) [t1, t2] rfl (fun i hi => ?_) _ _ hnum (fun i hi => ?_) (hasT (by show r1.length ≤ _; omega) h2) (fun i t h => ?_) (cut_d 41 r2 (by omega)), ⟨?_, ?_⟩, ?_, fun hok => ?_⟩
                    · rcases (by omega : i = 0 ∨ i = 1) with rfl | rfl
                      · exact ⟨by simp, by show (40 :: R).length ≤ _; rw [List.length_cons]; omega⟩
                      · show 1 ≤ r1.length ∧ r1.length ≤ _
                        rw [hR1, List.length_cons]; omega
                    · rcases (by omega : i = 0 ∨ i = 1 ∨ i = 2) with rfl | rfl | rfl
                      · exact hasT (by show (40 :: R).length ≤ _; rw [List.length_cons]; omega) rfl
                      · exact hasF (by show r1.length ≤ _; omega) h1
                      · exact hasF (by show r2.length ≤ _; omega) h3
                    · rcases i with _ | _ | i
                      · obtain rfl := Option.some.inj h
                        exact d1
                      · obtain rfl := Option.some.inj h
                        show DFun Tryd.prog 41 [strD (List.drop 1 r1)] _
                        rw [hR1]
                        exact d2
                      · rw [List.getElem?_cons_succ, List.getElem?_cons_succ, List.getElem?_nil] at h
                        cases h
                    · rw [TSm_node, TSmL, TSmL, TSmL]
                      exact ⟨by show 2 * 32 ≤ _; decide, g1.1, g2.1, trivial⟩
                    · rw [SymR_node, SymRL, SymRL, SymRL]
                      exact ⟨hsn, g1.2, g2.2, trivial⟩
                    · have := cutA_len 41 r2
                      omega
                    · have h41 : r2.head? = some 41 := of_decide_eq_true hok
                      have hc : r2 = 41 :: cutA 41 r2 := by
                        unfold cutA
                        rw [if_pos h41]
                        cases r2 with
                        | nil => cases h41
                        | cons x y => rw [Option.some.inj h41]; rfl
                      rw [text2, hit]
                      refine hdr.symm.trans ?_
                      generalize cutA 41 r2 = q at *
                      rw [e1, hR1, e2, hc]
                      simp
              · refine ⟨.node N [t1], cutA 41 r1, decide (r1.head? = some 41), parse_kids s N 1 (.inl rfl) (fun i => if i = 0 then 40 :: R else r1) [t1] rfl (fun i hi => ?_) _ _ hnum (fun i hi => ?_) (hasF (by show r1.length ≤ _; omega) h2) (fun i t h => ?_) (cut_d 41 r1 (by omega)), ⟨?_, ?_⟩, ?_, fun hok => ?_⟩
                · obtain rfl : i = 0 := by omega
                  exact ⟨by simp, by show (40 :: R).length ≤ _; rw [List.length_cons]; omega⟩
                · rcases (by omega : i = 0 ∨ i = 1) with rfl | rfl
                  · exact hasT (by show (40 :: R).length ≤ _; rw [List.length_cons]; omega) rfl
                  · exact hasF (by show r1.length ≤ _; omega) h1
                · rcases i with _ | i
                  · obtain rfl := Option.some.inj h
                    exact d1
                  · rw [List.getElem?_cons_succ, List.getElem?_nil] at h
                    cases h
                · rw [TSm_node, TSmL, TSmL]
                  exact ⟨by show 1 * 32 ≤ _; decide, g1.1, trivial⟩
                · rw [SymR_node, SymRL, SymRL]
                  exact ⟨hsn, g1.2, trivial⟩
                · have := cutA_len 41 r1
                  omega
                · have h41 : r1.head? = some 41 := of_decide_eq_true hok
                  have hc : r1 = 41 :: cutA 41 r1 := by
                    unfold cutA
                    rw [if_pos h41]
                    cases r1 with
                    | nil => cases h41
                    | cons x y => rw [Option.some.inj h41]; rfl
                  rw [text1, hit]
                  refine hdr.symm.trans ?_
                  generalize cutA 41 r1 = q at *
                  rw [e1, hc]
                  simp
        · refine ⟨.node N [], rest s, true, parse_leaf s _ N hnum (hasF (by omega) h40), ⟨?_, ?_⟩, by omega, fun _ => ?_⟩
          · rw [TSm_node, TSmL]; exact ⟨by decide, trivial⟩
          · rw [SymR_node, SymRL]; exact ⟨hsn, trivial⟩
          · rw [text0, hit, hdr]
      · rw [decide_eq_false hv] at hnum
        exact par_fail (parse_fail0 _ _ _ hnum)
end Go.Proofs.YtohjapcafkhabaaDoor

set_option linter.unusedSimpArgs false
set_option linter.unusedVariables false
set_option maxHeartbeats 4000000
set_option maxRecDepth 8000
namespace Go.Proofs.YtohjapcafkhabaaDoor
open Go Go.RowKit Go.PP Go.Dm Go.Rt
theorem dec_len {m : Nat} (h : m < 4096) : (Lib.decDigits m).length ≤ 4 := by
  obtain ⟨⟨h1, h2, h3⟩, h4, h5⟩ := dig_ok m
  by_cases hm : 1 ≤ m
  · have h6 := valN_low _ h2 h1 (h5 hm)
    rw [h4] at h6
    by_cases hl : (Lib.decDigits m).length ≤ 4
    · exact hl
    · have : 10 ^ 4 ≤ 10 ^ ((Lib.decDigits m).length - 1) := Nat.pow_le_pow_right (by decide) (by omega)
      omega
  · obtain rfl : m = 0 := by omega
    decide +kernel
theorem number_at (m : Nat) (hm : m < 4096) (X : List UInt8) (hX : ∀ b, X.head? = some b → isDg b = false) (hl : (Lib.itoa (m : Int) ++ X).length ≤ 1000000) : DFun Tryd.prog 62 [strD (Lib.itoa (m : Int) ++ X)] (.tup [.flat (.int .i64 (m : Nat)), strD X, .flat (.bool true)]) := by
  rw [itoa_nat] at hl ⊢
  obtain ⟨⟨h1, h2, h3⟩, h4, h5⟩ := dig_ok m
  obtain ⟨e1, e2⟩ := take_dig h2 hX
  have h := number_ok hl (by
    rw [e1]
    rintro (h | h)
    · exact h1 h
    · exact h3 h) (by rw [e1]; exact dec_len hm)
  rw [e1, e2, h4, decide_eq_true (by omega)] at h
  exact h
theorem kids_le {r : List Int} (hr2 : ∀ n ∈ r, n ≤ 2) {s : Int} {l : List Tr} (h : nodesE r (.node s l) = 0) : 0 ≤ s ∧ s < r.length ∧ l.length ≤ 2 ∧ nodesL r l = 0 := by
  rw [nodesE_node] at h
  by_cases h1 : s < 0 ∨ (r.length : Int) ≤ s
  · rw [if_pos h1] at h; cases h
  · rw [if_neg h1] at h
    by_cases h2 : (l.length : Int) ≠ r.getD s.toNat 0
    · rw [if_pos h2] at h; cases h
    · rw [if_neg h2] at h
      have h2 : (l.length : Int) = r.getD s.toNat 0 := by omega
      refine ⟨by omega, by omega, ?_, h⟩
      rw [List.getD_eq_getElem?_getD, List.getElem?_eq_getElem (show s.toNat < r.length by omega)] at h2
      have := hr2 _ (List.getElem_mem (show s.toNat < r.length by omega))
      simp only [Option.getD_some] at h2
      omega
theorem nodesL_zero {r : List Int} {t : Tr} {ts : List Tr} (h : nodesL r (t :: ts) = 0) : nodesE r t = 0 ∧ nodesL r ts = 0 := by
  rw [nodesL_cons] at h
  by_cases h1 : nodesE r t ≠ 0
  · rw [if_pos h1] at h; exact absurd h h1
  · rw [if_neg h1] at h; exact ⟨by omega, h⟩
theorem parse_text (r : List Int) (hr : r.length ≤ 4096) (hr2 : ∀ n ∈ r, n ≤ 2) : ∀ (n : Nat) (t : Tr), depT t ≤ n → nodesE r t = 0 → ∀ q : List UInt8, (∀ b, q.head? = some b → isDg b = false) → q.head? ≠ some 40 → (textT Lib.itoa t ++ q).length ≤ 1000000 → DFun Tryd.prog 41 [strD (textT Lib.itoa t ++ q)] (.tup [treeD t, strD q, .flat (.bool true)]) := by
  intro n
  induction n with
  | zero => intro t h; obtain ⟨s, l⟩ := t; rw [depT_node] at h; omega
  | succ n ih =>
    intro t h hn q hq hq4 hl
    obtain ⟨s, l⟩ := t
    rw [depT_node] at h
    obtain ⟨a1, a2, a3, a4⟩ := kids_le hr2 hn
    obtain ⟨m, rfl⟩ : ∃ m : Nat, s = (m : Int) := ⟨s.toNat, by omega⟩
    have hm : m < 4096 := by omega
    have dg : ∀ (c : UInt8) (X : List UInt8), isDg c = false → ∀ b, (c :: X).head? = some b → isDg b = false := fun c X hc b hb => by
      rw [← Option.some.inj hb]; exact hc
    match l, a3 with
    | [], _ =>
      rw [text0] at hl ⊢
      exact parse_leaf _ q m (number_at m hm q hq hl) (hasF (by rw [List.length_append] at hl; omega) hq4)
    | [t1], _ =>
      obtain ⟨b1, _⟩ := nodesL_zero a4
      have hd := depL_at (l := [t1]) (i := 0) (t := t1) rfl
      rw [text1] at hl ⊢
      simp only [List.append_assoc, List.cons_append, List.nil_append] at hl ⊢
      have hl2 := hl
      simp only [List.length_append, List.length_cons] at hl2
      refine parse_kids _ m 1 (.inl rfl) (fun i => if i = 0 then 40 :: (textT Lib.itoa t1 ++ (41 :: q)) else 41 :: q) [t1] rfl (fun i hi => ?_) q true (number_at m hm _ (dg 40 _ (by decide)) hl) (fun i hi => ?_) (hasF (by show (41 :: q).length ≤ _; rw [List.length_cons]; omega) (by show some (41 : UInt8) ≠ _; decide)) (fun i t hi => ?_) ?_
      · obtain rfl : i = 0 := by omega
        refine ⟨by simp, ?_⟩
        show (40 :: (textT Lib.itoa t1 ++ (41 :: q))).length ≤ _
        simp only [List.length_append, List.length_cons]
        omega
      · rcases (by omega : i = 0 ∨ i = 1) with rfl | rfl
        · exact hasT (by show (40 :: (textT Lib.itoa t1 ++ (41 :: q))).length ≤ _; simp only [List.length_append, List.length_cons]; omega) rfl
        · exact hasF (by show (41 :: q).length ≤ _; rw [List.length_cons]; omega) (by show some (41 : UInt8) ≠ _; decide)
      · rcases i with _ | i
        · obtain rfl := Option.some.inj hi
          exact ih t1 (by omega) b1 (41 :: q) (dg 41 _ (by decide)) (by show some (41 : UInt8) ≠ _; decide) (by simp only [List.length_append, List.length_cons]; omega)
        · rw [List.getElem?_cons_succ, List.getElem?_nil] at hi
          cases hi
      · have hc := cut_d 41 (41 :: q) (by rw [List.length_cons]; omega)
        rwa [decide_eq_true (show (41 :: q).head? = some 41 from rfl), show cutA 41 (41 :: q) = q by unfold cutA; rw [if_pos (show (41 :: q).head? = some 41 from rfl)]; rfl] at hc
    | [t1, t2], _ =>
      obtain ⟨b1, a5⟩ := nodesL_zero a4
      obtain ⟨b2, _⟩ := nodesL_zero a5
      have hd := depL_at (l := [t1, t2]) (i := 0) (t := t1) rfl
      have hd2 := depL_at (l := [t1, t2]) (i := 1) (t := t2) rfl
      rw [text2] at hl ⊢
      simp only [List.append_assoc, List.cons_append, List.nil_append] at hl ⊢
      have hl2 := hl
      simp only [List.length_append, List.length_cons] at hl2
      refine parse_kids _ m 2 (.inr rfl) (fun i => if i = 0 then 40 :: (textT Lib.itoa t1 ++ (44 :: (textT Lib.itoa t2 ++ (41 :: q)))) else if i = 1 then 44 :: (textT Lib.itoa t2 ++ (41 :: q)) else 41 :: q) [t1, t2] rfl (fun i hi => ?_) q true (number_at m hm _ (dg 40 _ (by decide)) hl) (fun i hi => ?_) (hasT (by show (44 :: (textT Lib.itoa t2 ++ (41 :: q))).length ≤ _; simp only [List.length_append, List.length_cons]; omega) rfl) (fun i t hi => ?_) ?_
      · rcases (by omega : i = 0 ∨ i = 1) with rfl | rfl
        · refine ⟨by simp, ?_⟩
          show (40 :: (textT Lib.itoa t1 ++ (44 :: (textT Lib.itoa t2 ++ (41 :: q))))).length ≤ _
          simp only [List.length_append, List.length_cons]
          omega
        · refine ⟨by simp, ?_⟩
          show (44 :: (textT Lib.itoa t2 ++ (41 :: q))).length ≤ _
          simp only [List.length_append, List.length_cons]
          omega
      · rcases (by omega : i = 0 ∨ i = 1 ∨ i = 2) with rfl | rfl | rfl
        · exact hasT (by show (40 :: (textT Lib.itoa t1 ++ (44 :: (textT Lib.itoa t2 ++ (41 :: q))))).length ≤ _; simp only [List.length_append, List.length_cons]; omega) rfl
        · exact hasF (by show (44 :: (textT Lib.itoa t2 ++ (41 :: q))).length ≤ _; simp only [List.length_append, List.length_cons]; omega) (by show some (44 : UInt8) ≠ _; decide)
        · exact hasF (by show (41 :: q).length ≤ _; rw [List.length_cons]; omega) (by show some (41 : UInt8) ≠ _; decide)
      · rcases i with _ | _ | i
        · obtain rfl := Option.some.inj hi
          exact ih t1 (by omega) b1 _ (dg 44 _ (by decide)) (by show some (44 : UInt8) ≠ _; decide) (by simp only [List.length_append, List.length_cons]; omega)
        · obtain rfl := Option.some.inj hi
          exact ih t2 (by omega) b2 _ (dg 41 _ (by decide)) (by show some (41 : UInt8) ≠ _; decide) (by simp only [List.length_append, List.length_cons]; omega)
        · rw [List.getElem?_cons_succ, List.getElem?_cons_succ, List.getElem?_nil] at hi
          cases hi
      · have hc := cut_d 41 (41 :: q) (by rw [List.length_cons]; omega)
        rwa [decide_eq_true (show (41 :: q).head? = some 41 from rfl), show cutA 41 (41 :: q) = q by unfold cutA; rw [if_pos (show (41 :: q).head? = some 41 from rfl)]; rfl] at hc
    | _ :: _ :: _ :: _, h => simp at h
end Go.Proofs.YtohjapcafkhabaaDoor

set_option linter.unusedSimpArgs false
set_option linter.unusedVariables false
set_option maxHeartbeats 4000000
set_option maxRecDepth 8000
namespace Go.Proofs.YtohjapcafkhabaaDoor
open Go Go.RowKit Go.PP Go.Dm Go.Rt
theorem parse13_f (s : List UInt8) (t : Tr) (r : List UInt8) (ok : Bool) (hs : s.length ≤ 2000) (hr : r.length ≤ 2000) (h1 : DFun Tryd.prog 41 [strD s] (.tup [treeD t, strD r, .flat (.bool ok)])) (hb : ok = false ∨ (ok = true ∧ decide (r ≠ []) = true)) : DFun Tryd.prog 13 [strD s] (.tup [treeD (.node 0 []), .flat (.int .i64 3)]) := by
  obtain ⟨x, l⟩ := t
  rw [treeD_node] at h1
  have hp := kidsC_pers l
  refine DFun.enterA Tryd.func13 Tryd.ntmps13 ?_
  rcases hb with rfl | ⟨rfl, hb⟩
  · refine DW.walk ?_
    exact ⟨.inr rfl, ResOk.cellTmpA [] rfl rfl rfl TyI.ag TyI.sz rfl trivial (.cons (Vw.pers rfl) (.cons (Vw.p rfl (Le.nil _ _)) .nil)) (Le.of_eq (by rw [treeD_node, treesD, kidsC_nil]; rfl)) (Vw.pers rfl)⟩
  · refine DW.walk ?_
    exact ⟨.inr rfl, ResOk.cellTmpA [] rfl rfl rfl TyI.ag TyI.sz rfl trivial (.cons (Vw.pers rfl) (.cons (Vw.p rfl (Le.nil _ _)) .nil)) (Le.of_eq (by rw [treeD_node, treesD, kidsC_nil]; rfl)) (Vw.pers rfl)⟩
theorem parse13_s (s : List UInt8) (t : Tr) (e : Int) (hs : s.length ≤ 2000) (h1 : DFun Tryd.prog 41 [strD s] (.tup [treeD t, strD [], .flat (.bool true)])) (h2 : DFun Tryd.prog 42 [treeD t] (.flat (.int .i64 e))) (he : ¬ e = 0) : DFun Tryd.prog 13 [strD s] (.tup [treeD (.node 0 []), .flat (.int .i64 e)]) := by
  obtain ⟨x, l⟩ := t
  rw [treeD_node] at h1 h2
  have hp := kidsC_pers l
  refine DFun.enterA Tryd.func13 Tryd.ntmps13 ?_
  refine DW.walk ?_
  exact ⟨.inr rfl, ResOk.cellTmpA [] rfl rfl rfl TyI.ag TyI.sz rfl trivial (.cons (Vw.pers rfl) (.cons (Vw.p rfl (Le.nil _ _)) .nil)) (Le.of_eq (by rw [treeD_node, treesD, kidsC_nil]; rfl)) (Vw.pers rfl)⟩
theorem parse13_any (s : List UInt8) (hs : s.length ≤ 2000) : ∃ t e, DFun Tryd.prog 13 [strD s] (.tup [treeD t, .flat (.int .i64 e)]) ∧ TSm t ∧ SymR t ∧ (e = 0 → s = textT Lib.itoa t) := by
  obtain ⟨t, r, ok, h1, h2, h3, h4⟩ := parse_any s.length s (Nat.le_refl _) (by omega)
  have z : TSm (.node 0 []) ∧ SymR (.node 0 []) := ⟨by simp [TSm, TSmL], by simp [SymR, SymRL]⟩
  cases ok with
  | false => exact ⟨_, 3, parse13_f s t r false hs (by omega) h1 (.inl rfl), z.1, z.2, fun h => by cases h⟩
  | true =>
    by_cases hr : r = []
    · subst hr
      have h42 := small42_d t h2.1
      generalize (if 4096 < sizeW t then 2 else if 256 < deepW t then 16 else 0 : Int) = e at *
      by_cases he : e = 0
      · subst he
        exact ⟨t, 0, parse13_ok s t (by omega) h1 h42, h2.1, h2.2, fun _ => by have := h4 rfl; rwa [List.append_nil] at this⟩
      · exact ⟨_, e, parse13_s s t e hs h1 h42 he, z.1, z.2, fun h => absurd h he⟩
    · exact ⟨_, 3, parse13_f s t r true hs (by omega) h1 (.inr ⟨rfl, decide_eq_true hr⟩), z.1, z.2, fun h => by cases h⟩
mutual
theorem text_len (r : List Int) (hr : r.length ≤ 4096) (hr2 : ∀ n ∈ r, n ≤ 2) : ∀ t : Tr, nodesE r t = 0 → (textT Lib.itoa t).length + 1 ≤ 6 * sizeT t
  | .node s l, h => by
    obtain ⟨a1, a2, a3, a4⟩ := kids_le hr2 h
    have hi : (Lib.itoa s).length ≤ 4 := by
      have e : s = ((s.toNat : Nat) : Int) := by omega
      rw [e, itoa_nat]
      exact dec_len (by omega)
    have hk := textL_len r hr hr2 l 40 a4
    rw [textT, sizeT_node]
    split
    · simp only [List.length_append, List.length_nil]; omega
    · simp only [List.length_append, List.length_cons, List.length_nil]; omega
theorem textL_len (r : List Int) (hr : r.length ≤ 4096) (hr2 : ∀ n ∈ r, n ≤ 2) : ∀ (l : List Tr) (c : UInt8), nodesL r l = 0 → (textL Lib.itoa c l).length ≤ 6 * sizeTL l
  | [], c, h => by rw [textL]; exact Nat.zero_le _
  | t :: ts, c, h => by
    obtain ⟨b1, b2⟩ := nodesL_zero h
    have h1 := text_len r hr hr2 t b1
    have h2 := textL_len r hr hr2 ts 44 b2
    rw [textL, sizeTL_cons]
    simp only [List.cons_append, List.length_cons, List.length_append]
    omega
end
theorem alpha_le {r : List Int} (h : alphaE r = 0) : r.length ≤ 4096 ∧ ∀ n ∈ r, n ≤ 2 := by
  unfold alphaE at h
  by_cases h1 : r.length < 1 ∨ 4096 < r.length
  · rw [if_pos h1] at h; cases h
  · rw [if_neg h1] at h
    by_cases h2 : ∃ n ∈ r, n < 0 ∨ 2 < n
    · rw [if_pos h2] at h; cases h
    · exact ⟨by omega, fun n hn => Int.not_lt.1 fun h => h2 ⟨n, hn, .inr h⟩⟩
theorem right_zero {r : List Int} {t : Tr} (h : rightE r t = 0) : alphaE r = 0 ∧ ¬ 4096 < sizeW t ∧ ¬ 256 < deepW t ∧ nodesE r t = 0 := by
  unfold rightE at h
  by_cases h1 : alphaE r ≠ 0
  · rw [if_pos h1] at h; exact absurd h h1
  · rw [if_neg h1] at h
    by_cases h2 : 4096 < sizeW t
    · rw [if_pos h2] at h; cases h
    · rw [if_neg h2] at h
      by_cases h3 : 256 < deepW t
      · rw [if_pos h3] at h; cases h
      · rw [if_neg h3] at h
        exact ⟨by omega, h2, h3, h⟩
end Go.Proofs.YtohjapcafkhabaaDoor
