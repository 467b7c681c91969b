/- Contracts over data: parse, at any text, and what it yields is good. No condition. -/
import Derived.Test.YtohjapcafkhabaaDoorYP13
import Derived.Test.YtohjapcafkhabaaDoorYTE
import Derived.Test.YtohjapcafkhabaaDoorYV4a
import Derived.Test.YtohjapcafkhabaaDoorYNR

set_option linter.unusedSimpArgs false
set_option linter.unusedVariables false
set_option maxHeartbeats 4000000
set_option maxRecDepth 8000
namespace Go.Proofs.YtohjapcafkhabaaDoor
open Go Go.RowKit Go.PP Go.Dm Go.Rt
mutual
/-- Symbols below 4096, at most two children. -/
def goodT : Tr → Prop
  | .node s l => (0 ≤ s ∧ s < 4096) ∧ l.length ≤ 2 ∧ goodTL l
def goodTL : List Tr → Prop
  | [] => True
  | t :: ts => goodT t ∧ goodTL ts
end
theorem goodT_node {s : Int} {l : List Tr} : goodT (.node s l) ↔ (0 ≤ s ∧ s < 4096) ∧ l.length ≤ 2 ∧ goodTL l := by rw [goodT]
/-- What parse says, and that it is right. -/
def ParG (s : List UInt8) (t : Tr) (r : List UInt8) (ok : Bool) : Prop :=
  DFun Tryd.prog 41 [strD s] (.tup [treeD t, strD r, .flat (.bool ok)]) ∧ (TSm t ∧ SymR t ∧ goodT t) ∧ r.length ≤ s.length ∧ (ok = true → s = textT Lib.itoa t ++ r)
theorem par_failG {s : List UInt8} (h : DFun Tryd.prog 41 [strD s] (.tup [treeD (.node 0 []), strD [], .flat (.bool false)])) : ∃ t r ok, ParG s t r ok :=
  ⟨_, _, _, h, ⟨by simp [TSm, TSmL], by simp [SymR, SymRL], by simp [goodT, goodTL]⟩, Nat.zero_le _, fun h => by cases h⟩
theorem parse_anyG : ∀ (n : Nat) (s : List UInt8), s.length ≤ n → s.length ≤ 1000000 → ∃ t r ok, ParG s t r ok := by
  intro n
  induction n with
  | zero =>
    intro s h0 hs
    obtain rfl : s = [] := List.eq_nil_of_length_eq_zero (by omega)
    exact par_failG (parse_fail0 _ _ _ (number_bad hs (.inl (.inl rfl))))
  | succ n ih =>
    intro s hn hs
    by_cases hb : badN (digs s) ∨ 4 < (digs s).length
    · exact par_failG (parse_fail0 _ _ _ (number_bad hs hb))
    · have hnb : ¬ badN (digs s) := fun h => hb (.inl h)
      have hnum := number_ok hs hnb (by omega)
      have hdr := digs_rest s
      have hlen := congrArg List.length hdr
      rw [List.length_append] at hlen
      have hd0 : 0 < (digs s).length := List.length_pos_iff.2 fun e => hnb (.inl e)
      have hit : Lib.itoa ((valN (digs s) : Nat) : Int) = digs s := by
        rw [itoa_nat]
        exact Canon.dig _ (canon_of hnb)
      generalize valN (digs s) = N at *
      by_cases hv : (N : Int) < 4096
      · rw [decide_eq_true hv] at hnum
        have hsn : -9223372036854775808 ≤ (N : Int) ∧ (N : Int) ≤ 9223372036854775807 := by omega
        by_cases h40 : (rest s).head? = some 40
        · obtain ⟨R, hR⟩ : ∃ R, rest s = 40 :: R := by
            cases h : rest s with
            | nil => rw [h] at h40; cases h40
            | cons x y =>
              rw [h] at h40
              exact ⟨y, by rw [Option.some.inj h40]⟩
          rw [hR] at hnum hlen hdr
          rw [List.length_cons] at hlen
          obtain ⟨t1, r1, ok1, d1, g1, l1, e1⟩ := ih R (by omega) (by omega)
          have f0 : ok1 = false ∨ (ok1 = true ∧ DFun Tryd.prog 63 [strD r1, strD [40]] (.flat (.bool true))) → ∃ t r ok, ParG s t r ok := fun hbad => par_failG (parse_failk s N 0 (.inl rfl) (fun _ => 40 :: R) [] rfl (fun i hi => ⟨by simp, by show (40 :: R).length ≤ _; rw [List.length_cons]; omega⟩) hnum (fun i hi => by
            obtain rfl : i = 0 := by omega
            exact hasT (by rw [List.length_cons]; omega) rfl) (fun h => by cases h) (fun i t h => by cases h) t1 r1 ok1 d1 hbad)
          cases ok1 with
          | false => exact f0 (.inl rfl)
          | true =>
            have e1 := e1 rfl
            by_cases h1 : r1.head? = some 40
            · exact f0 (.inr ⟨rfl, hasT (by omega) h1⟩)
            · by_cases h2 : r1.head? = some 44
              · obtain ⟨R1, hR1⟩ : ∃ R1, r1 = 44 :: R1 := by
                  cases h : r1 with
                  | nil => rw [h] at h2; cases h2
                  | cons x y =>
                    rw [h] at h2
                    exact ⟨y, by rw [Option.some.inj h2]⟩
                have hl1 : R1.length + 1 ≤ R.length := by rw [hR1, List.length_cons] at l1; exact l1
                obtain ⟨t2, r2, ok2, d2, g2, l2, e2⟩ := ih R1 (by omega) (by omega)
                have f1 : ok2 = false ∨ (ok2 = true ∧ DFun Tryd.prog 63 [strD r2, strD [40]] (.flat (.bool true))) → ∃ t r ok, ParG s t r ok := fun hbad => par_failG (parse_failk s N 1 (.inr rfl) (fun i => if i = 0 then 40 :: R else r1) [t1] rfl (fun i hi => by
                  rcases (by omega : i = 0 ∨ i = 1) with rfl | rfl
                  · exact ⟨by simp, by show (40 :: R).length ≤ _; rw [List.length_cons]; omega⟩
                  · show 1 ≤ r1.length ∧ r1.length ≤ _
                    rw [hR1, List.length_cons]; omega) hnum (fun i hi => by
                  rcases (by omega : i = 0 ∨ i = 1) with rfl | rfl
                  · exact hasT (by show (40 :: R).length ≤ _; rw [List.length_cons]; omega) rfl
                  · exact hasF (by show r1.length ≤ _; omega) h1) (fun _ => hasT (by show r1.length ≤ _; omega) h2) (fun i t h => by
                  rcases i with _ | i
                  · obtain rfl := Option.some.inj h
                    exact d1
                  · rw [List.getElem?_cons_succ, List.getElem?_nil] at h
                    cases h) t2 r2 ok2 (by rw [show List.drop 1 (if 1 = 0 then 40 :: R else r1) = R1 by rw [hR1]; rfl]; exact d2) hbad)
                cases ok2 with
                | false => exact f1 (.inl rfl)
                | true =>
                  have e2 := e2 rfl
                  by_cases h3 : r2.head? = some 40
                  · exact f1 (.inr ⟨rfl, hasT (by omega) h3⟩)
                  · refine ⟨.node N [t1, t2], cutA 41 r2, decide (r2.head? = some 41), parse_kids s N 2 (.inr rfl) (fun i => if i = 0 then 40 :: R else if i = 1 then r1 else r2) [t1, t2] rfl (fun i hi => ?_) _ _ hnum (fun i hi => ?_) (hasT (by show r1.length ≤ _; omega) h2) (fun i t h => ?_) (cut_d 41 r2 (by omega)), ⟨?_, ?_, ?_⟩, ?_, fun hok => ?_⟩
                    · rcases (by omega : i = 0 ∨ i = 1) with rfl | rfl
                      · exact ⟨by simp, by show (40 :: R).length ≤ _; rw [List.length_cons]; omega⟩
                      · show 1 ≤ r1.length ∧ r1.length ≤ _
                        rw [hR1, List.length_cons]; omega
                    · rcases (by omega : i = 0 ∨ i = 1 ∨ i = 2) with rfl | rfl | rfl
                      · exact hasT (by show (40 :: R).length ≤ _; rw [List.length_cons]; omega) rfl
                      · exact hasF (by show r1.length ≤ _; omega) h1
                      · exact hasF (by show r2.length ≤ _; omega) h3
                    · rcases i with _ | _ | i
                      · obtain rfl := Option.some.inj h
                        exact d1
                      · obtain rfl := Option.some.inj h
                        show DFun Tryd.prog 41 [strD (List.drop 1 r1)] _
                        rw [hR1]
                        exact d2
                      · rw [List.getElem?_cons_succ, List.getElem?_cons_succ, List.getElem?_nil] at h
                        cases h
                    · rw [TSm_node, TSmL, TSmL, TSmL]
                      exact ⟨by show 2 * 32 ≤ _; decide, g1.1, g2.1, trivial⟩
                    · rw [SymR_node, SymRL, SymRL, SymRL]
                      exact ⟨hsn, g1.2.1, g2.2.1, trivial⟩
                    · rw [goodT_node, goodTL, goodTL, goodTL]; exact ⟨⟨by omega, by omega⟩, by simp, g1.2.2, g2.2.2, trivial⟩
                    · have := cutA_len 41 r2
                      omega
                    · have h41 : r2.head? = some 41 := of_decide_eq_true hok
                      have hc : r2 = 41 :: cutA 41 r2 := by
                        unfold cutA
                        rw [if_pos h41]
                        cases r2 with
                        | nil => cases h41
                        | cons x y => rw [Option.some.inj h41]; rfl
                      rw [text2, hit]
                      refine hdr.symm.trans ?_
                      generalize cutA 41 r2 = q at *
                      rw [e1, hR1, e2, hc]
                      simp
              · refine ⟨.node N [t1], cutA 41 r1, decide (r1.head? = some 41), parse_kids s N 1 (.inl rfl) (fun i => if i = 0 then 40 :: R else r1) [t1] rfl (fun i hi => ?_) _ _ hnum (fun i hi => ?_) (hasF (by show r1.length ≤ _; omega) h2) (fun i t h => ?_) (cut_d 41 r1 (by omega)), ⟨?_, ?_, ?_⟩, ?_, fun hok => ?_⟩
                · obtain rfl : i = 0 := by omega
                  exact ⟨by simp, by show (40 :: R).length ≤ _; rw [List.length_cons]; omega⟩
                · rcases (by omega : i = 0 ∨ i = 1) with rfl | rfl
                  · exact hasT (by show (40 :: R).length ≤ _; rw [List.length_cons]; omega) rfl
                  · exact hasF (by show r1.length ≤ _; omega) h1
                · rcases i with _ | i
                  · obtain rfl := Option.some.inj h
                    exact d1
                  · rw [List.getElem?_cons_succ, List.getElem?_nil] at h
                    cases h
                · rw [TSm_node, TSmL, TSmL]
                  exact ⟨by show 1 * 32 ≤ _; decide, g1.1, trivial⟩
                · rw [SymR_node, SymRL, SymRL]
                  exact ⟨hsn, g1.2.1, trivial⟩
                · rw [goodT_node, goodTL, goodTL]; exact ⟨⟨by omega, by omega⟩, by simp, g1.2.2, trivial⟩
                · have := cutA_len 41 r1
                  omega
                · have h41 : r1.head? = some 41 := of_decide_eq_true hok
                  have hc : r1 = 41 :: cutA 41 r1 := by
                    unfold cutA
                    rw [if_pos h41]
                    cases r1 with
                    | nil => cases h41
                    | cons x y => rw [Option.some.inj h41]; rfl
                  rw [text1, hit]
                  refine hdr.symm.trans ?_
                  generalize cutA 41 r1 = q at *
                  rw [e1, hc]
                  simp
        · refine ⟨.node N [], rest s, true, parse_leaf s _ N hnum (hasF (by omega) h40), ⟨?_, ?_, ?_⟩, by omega, fun _ => ?_⟩
          · rw [TSm_node, TSmL]; exact ⟨by decide, trivial⟩
          · rw [SymR_node, SymRL]; exact ⟨hsn, trivial⟩
          · rw [goodT_node, goodTL]; exact ⟨⟨by omega, hv⟩, by simp, trivial⟩
          · rw [text0, hit, hdr]
      · rw [decide_eq_false hv] at hnum
        exact par_failG (parse_fail0 _ _ _ hnum)
end Go.Proofs.YtohjapcafkhabaaDoor

set_option linter.unusedSimpArgs false
set_option linter.unusedVariables false
set_option maxHeartbeats 4000000
set_option maxRecDepth 8000
namespace Go.Proofs.YtohjapcafkhabaaDoor
open Go Go.RowKit Go.PP Go.Dm Go.Rt
theorem parse_textG : ∀ (n : Nat) (t : Tr), depT t ≤ n → goodT t → ∀ q : List UInt8, (∀ b, q.head? = some b → isDg b = false) → q.head? ≠ some 40 → (textT Lib.itoa t ++ q).length ≤ 1000000 → DFun Tryd.prog 41 [strD (textT Lib.itoa t ++ q)] (.tup [treeD t, strD q, .flat (.bool true)]) := by
  intro n
  induction n with
  | zero => intro t h; obtain ⟨s, l⟩ := t; rw [depT_node] at h; omega
  | succ n ih =>
    intro t h hn q hq hq4 hl
    obtain ⟨s, l⟩ := t
    rw [depT_node] at h
    obtain ⟨⟨a1, a2⟩, a3, a4⟩ := goodT_node.1 hn
    obtain ⟨m, rfl⟩ : ∃ m : Nat, s = (m : Int) := ⟨s.toNat, by omega⟩
    have hm : m < 4096 := by omega
    have dg : ∀ (c : UInt8) (X : List UInt8), isDg c = false → ∀ b, (c :: X).head? = some b → isDg b = false := fun c X hc b hb => by
      rw [← Option.some.inj hb]; exact hc
    match l, a3 with
    | [], _ =>
      rw [text0] at hl ⊢
      exact parse_leaf _ q m (number_at m hm q hq hl) (hasF (by rw [List.length_append] at hl; omega) hq4)
    | [t1], _ =>
      rw [goodTL, goodTL] at a4
      have b1 := a4.1
      have hd := depL_at (l := [t1]) (i := 0) (t := t1) rfl
      rw [text1] at hl ⊢
      simp only [List.append_assoc, List.cons_append, List.nil_append] at hl ⊢
      have hl2 := hl
      simp only [List.length_append, List.length_cons] at hl2
      refine parse_kids _ m 1 (.inl rfl) (fun i => if i = 0 then 40 :: (textT Lib.itoa t1 ++ (41 :: q)) else 41 :: q) [t1] rfl (fun i hi => ?_) q true (number_at m hm _ (dg 40 _ (by decide)) hl) (fun i hi => ?_) (hasF (by show (41 :: q).length ≤ _; rw [List.length_cons]; omega) (by show some (41 : UInt8) ≠ _; decide)) (fun i t hi => ?_) ?_
      · obtain rfl : i = 0 := by omega
        refine ⟨by simp, ?_⟩
        show (40 :: (textT Lib.itoa t1 ++ (41 :: q))).length ≤ _
        simp only [List.length_append, List.length_cons]
        omega
      · rcases (by omega : i = 0 ∨ i = 1) with rfl | rfl
        · exact hasT (by show (40 :: (textT Lib.itoa t1 ++ (41 :: q))).length ≤ _; simp only [List.length_append, List.length_cons]; omega) rfl
        · exact hasF (by show (41 :: q).length ≤ _; rw [List.length_cons]; omega) (by show some (41 : UInt8) ≠ _; decide)
      · rcases i with _ | i
        · obtain rfl := Option.some.inj hi
          exact ih t1 (by omega) b1 (41 :: q) (dg 41 _ (by decide)) (by show some (41 : UInt8) ≠ _; decide) (by simp only [List.length_append, List.length_cons]; omega)
        · rw [List.getElem?_cons_succ, List.getElem?_nil] at hi
          cases hi
      · have hc := cut_d 41 (41 :: q) (by rw [List.length_cons]; omega)
        rwa [decide_eq_true (show (41 :: q).head? = some 41 from rfl), show cutA 41 (41 :: q) = q by unfold cutA; rw [if_pos (show (41 :: q).head? = some 41 from rfl)]; rfl] at hc
    | [t1, t2], _ =>
      rw [goodTL, goodTL, goodTL] at a4
      have b1 := a4.1
      have b2 := a4.2.1
      have hd := depL_at (l := [t1, t2]) (i := 0) (t := t1) rfl
      have hd2 := depL_at (l := [t1, t2]) (i := 1) (t := t2) rfl
      rw [text2] at hl ⊢
      simp only [List.append_assoc, List.cons_append, List.nil_append] at hl ⊢
      have hl2 := hl
      simp only [List.length_append, List.length_cons] at hl2
      refine parse_kids _ m 2 (.inr rfl) (fun i => if i = 0 then 40 :: (textT Lib.itoa t1 ++ (44 :: (textT Lib.itoa t2 ++ (41 :: q)))) else if i = 1 then 44 :: (textT Lib.itoa t2 ++ (41 :: q)) else 41 :: q) [t1, t2] rfl (fun i hi => ?_) q true (number_at m hm _ (dg 40 _ (by decide)) hl) (fun i hi => ?_) (hasT (by show (44 :: (textT Lib.itoa t2 ++ (41 :: q))).length ≤ _; simp only [List.length_append, List.length_cons]; omega) rfl) (fun i t hi => ?_) ?_
      · rcases (by omega : i = 0 ∨ i = 1) with rfl | rfl
        · refine ⟨by simp, ?_⟩
          show (40 :: (textT Lib.itoa t1 ++ (44 :: (textT Lib.itoa t2 ++ (41 :: q))))).length ≤ _
          simp only [List.length_append, List.length_cons]
          omega
        · refine ⟨by simp, ?_⟩
          show (44 :: (textT Lib.itoa t2 ++ (41 :: q))).length ≤ _
          simp only [List.length_append, List.length_cons]
          omega
      · rcases (by omega : i = 0 ∨ i = 1 ∨ i = 2) with rfl | rfl | rfl
        · exact hasT (by show (40 :: (textT Lib.itoa t1 ++ (44 :: (textT Lib.itoa t2 ++ (41 :: q))))).length ≤ _; simp only [List.length_append, List.length_cons]; omega) rfl
        · exact hasF (by show (44 :: (textT Lib.itoa t2 ++ (41 :: q))).length ≤ _; simp only [List.length_append, List.length_cons]; omega) (by show some (44 : UInt8) ≠ _; decide)
        · exact hasF (by show (41 :: q).length ≤ _; rw [List.length_cons]; omega) (by show some (41 : UInt8) ≠ _; decide)
      · rcases i with _ | _ | i
        · obtain rfl := Option.some.inj hi
          exact ih t1 (by omega) b1 _ (dg 44 _ (by decide)) (by show some (44 : UInt8) ≠ _; decide) (by simp only [List.length_append, List.length_cons]; omega)
        · obtain rfl := Option.some.inj hi
          exact ih t2 (by omega) b2 _ (dg 41 _ (by decide)) (by show some (41 : UInt8) ≠ _; decide) (by simp only [List.length_append, List.length_cons]; omega)
        · rw [List.getElem?_cons_succ, List.getElem?_cons_succ, List.getElem?_nil] at hi
          cases hi
      · have hc := cut_d 41 (41 :: q) (by rw [List.length_cons]; omega)
        rwa [decide_eq_true (show (41 :: q).head? = some 41 from rfl), show cutA 41 (41 :: q) = q by unfold cutA; rw [if_pos (show (41 :: q).head? = some 41 from rfl)]; rfl] at hc
    | _ :: _ :: _ :: _, h => simp at h
end Go.Proofs.YtohjapcafkhabaaDoor
