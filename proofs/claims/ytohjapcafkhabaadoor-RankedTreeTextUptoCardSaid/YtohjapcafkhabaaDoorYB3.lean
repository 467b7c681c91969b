/- Contracts over data: text. No condition. -/
import Derived.Test.YtohjapcafkhabaaDoorYB2
import Derived.Test.YtohjapcafkhabaaDoorYC2

set_option linter.unusedSimpArgs false
set_option linter.unusedVariables false
set_option maxHeartbeats 4000000
set_option maxRecDepth 8000
namespace Go.Proofs.YtohjapcafkhabaaDoor
open Go Go.RowKit Go.PP Go.Dm Go.Rt
theorem textT_node (num : Int → List UInt8) (s : Int) (l : List Tr) : textT num (.node s l) = num s ++ (if l = [] then [] else textL num 40 l ++ [41]) := by rw [textT]
theorem textL_nil (num : Int → List UInt8) (c : UInt8) : textL num c [] = [] := by rw [textL]
theorem textL_cons (num : Int → List UInt8) (c : UInt8) (t : Tr) (ts : List Tr) : textL num c (t :: ts) = c :: textT num t ++ textL num 44 ts := by rw [textL]
theorem text_d : ∀ (n : Nat) (t : Tr), depT t ≤ n → TSm t → SymR t → ∀ l0 : List UInt8, (l0 ++ textT Lib.itoa t).length ≤ 140737488355328 → DLend Tryd.prog 44 [.ref 3436145868800003 0, treeD t] [(3436145868800003, some (.box [.ref 3436145868800003 0, .own 3436145868800004 (l0).length])), (3436145868800004, some (.row 5 1 (l0).length (bD (l0))))] [(3436145868800003, some (.box [.ref 3436145868800003 0, .own 3436145868800004 (l0 ++ textT Lib.itoa t).length])), (3436145868800004, some (.row 5 1 (l0 ++ textT Lib.itoa t).length (bD (l0 ++ textT Lib.itoa t))))] (.tup [])
  | 0, .node s l, h, _, _, _, _ => by rw [depT_node] at h; omega
  | n + 1, .node s l, h, hs, hr, l0, hX => by
    have hrs := (SymR_node.1 hr).1
    have hrl := (SymR_node.1 hr).2
    rw [depT_node] at h
    rw [TSm_node] at hs
    have ih := fun (k : Tr) (hk : depT k ≤ depL l) => text_d n k (by omega)
    have hs1 := hs.1
    have hit := itoa_d s hrs.1 hrs.2
    rw [treeD_node]
    rw [textT_node] at hX ⊢
    generalize hI : Lib.itoa s = I at *
    have hX0 : (l0 ++ I).length ≤ 140737488355328 := by
      simp only [List.length_append] at hX ⊢; omega
    have hw := ws_used l0 I (by rw [List.length_append] at hX0; exact hX0)
    have hX' : ∀ p : List UInt8, p ++ (textL Lib.itoa 40 l ++ (if l = [] then [] else [41])) = l0 ++ (I ++ (if l = [] then [] else textL Lib.itoa 40 l ++ [41])) → p.length ≤ 140737488355328 := fun p hp => by
      rw [← hp] at hX
      rw [List.length_append] at hX
      omega
    refine DLend.enterA Tryd.func44 Tryd.ntmps44 ?_
    refine DW.walk ?_
    refine DW.loopA (fun p : Nat × List UInt8 => ⟨[(0, .ref 3436145868800003 0), (3, .ref 3 0), (12, .sl false 2 l.length (kidsC l)), (13, .flat (.int .i64 (l.length : Nat))), (14, .flat (.int .i64 (p.1 : Nat)))], (3, some (.box [.flat (.int .i64 s), .sl false 2 l.length (kidsC l)])) :: [(3436145868800003, some (.box [.ref 3436145868800003 0, .own 3436145868800004 (p.2).length])), (3436145868800004, some (.row 5 1 (p.2).length (bD (p.2))))]⟩) (fun p => p.1 ≤ l.length ∧ p.2 ++ textL Lib.itoa (if p.1 = 0 then 40 else 44) (l.drop p.1) = l0 ++ I ++ textL Lib.itoa 40 l) (fun p => l.length - p.1) (0, l0 ++ I) ?_ ⟨Nat.zero_le _, rfl⟩
    rintro ⟨i, acc⟩ ⟨hi, hc⟩
    have hi : i ≤ l.length := hi
    have hc : acc ++ textL Lib.itoa (if i = 0 then 40 else 44) (l.drop i) = l0 ++ I ++ textL Lib.itoa 40 l := hc
    clear hw hit hX0 hX'
    rcases Nat.lt_or_ge i l.length with hlt | hge
    · obtain ⟨k, hk⟩ : ∃ k, l[i]? = some k := ⟨_, List.getElem?_eq_getElem hlt⟩
      have hp := part_kids hk
      have hln : l ≠ [] := fun e => by rw [e] at hlt; exact absurd hlt (Nat.not_lt_zero _)
      rw [if_neg hln] at hX
      have ihk := ih k (depL_at hk) (TSmL.at hs.2 hk) (SymRL.at hrl hk)
      rw [drop_at hk, textL_cons] at hc
      have hXl : (acc ++ (if i = 0 then 40 else 44) :: textT Lib.itoa k ++ textL Lib.itoa 44 (l.drop (i + 1))).length ≤ 140737488355328 := by
        have e : acc ++ (if i = 0 then 40 else 44) :: textT Lib.itoa k ++ textL Lib.itoa 44 (l.drop (i + 1)) = l0 ++ I ++ textL Lib.itoa 40 l := by rw [← hc]; simp
        rw [e]
        simp only [List.length_append] at hX ⊢
        omega
      have hn : (acc ++ [if i = 0 then 40 else 44] ++ textT Lib.itoa k) ++ textL Lib.itoa (if i + 1 = 0 then 40 else 44) (l.drop (i + 1)) = l0 ++ I ++ textL Lib.itoa 40 l := by
        rw [if_neg (show ¬ (i + 1 = 0) by omega), ← hc]
        simp
      simp only [List.length_append, List.length_cons] at hXl
      have hwb := wb_used acc (if i = 0 then 40 else 44) (by omega)
      have ihk := ihk (acc ++ [if i = 0 then 40 else 44]) (by simp only [List.length_append, List.length_cons, List.length_nil]; omega)
      clear ih hk hs hrl hr hX hXl hc hln h hI
      generalize textT Lib.itoa k = T1 at *
      obtain ⟨s1, l1⟩ := k
      rw [treeD_node] at hp ihk
      by_cases h0 : i = 0
      · rw [if_pos h0] at hwb ihk hn
        have hwb : DLend Tryd.prog 67 [.ref 3436145868800003 0, .flat (.int .u8 40)] [(3436145868800003, some (.box [.ref 3436145868800003 0, .own 3436145868800004 (acc).length])), (3436145868800004, some (.row 5 1 (acc).length (bD (acc))))] [(3436145868800003, some (.box [.ref 3436145868800003 0, .own 3436145868800004 (acc ++ [40]).length])), (3436145868800004, some (.row 5 1 (acc ++ [40]).length (bD (acc ++ [40]))))] (.flat .nilIface) := hwb
        generalize hA : acc ++ [40] = A at *
        generalize hB : A ++ T1 = B at *
        have e1 := bD_pers A
        have e2 := bD_pers B
        have e3 := bD_pers acc
        refine DW.walk ?_
        exact ⟨(i + 1, B), ⟨by show i + 1 ≤ _; omega, hn⟩, by show l.length - (i + 1) < l.length - i; omega, Sub.auto⟩
      · rw [if_neg h0] at hwb ihk hn
        have hwb : DLend Tryd.prog 67 [.ref 3436145868800003 0, .flat (.int .u8 44)] [(3436145868800003, some (.box [.ref 3436145868800003 0, .own 3436145868800004 (acc).length])), (3436145868800004, some (.row 5 1 (acc).length (bD (acc))))] [(3436145868800003, some (.box [.ref 3436145868800003 0, .own 3436145868800004 (acc ++ [44]).length])), (3436145868800004, some (.row 5 1 (acc ++ [44]).length (bD (acc ++ [44]))))] (.flat .nilIface) := hwb
        generalize hA : acc ++ [44] = A at *
        generalize hB : A ++ T1 = B at *
        have e1 := bD_pers A
        have e2 := bD_pers B
        have e3 := bD_pers acc
        refine DW.walk ?_
        exact ⟨(i + 1, B), ⟨by show i + 1 ≤ _; omega, hn⟩, by show l.length - (i + 1) < l.length - i; omega, Sub.auto⟩
    · obtain rfl : i = l.length := by omega
      rw [List.drop_of_length_le (Nat.le_refl _), textL_nil, List.append_nil] at hc
      clear ih hs hrl hr h 
      have e3 := bD_pers acc
      by_cases h0 : l = []
      · rw [if_pos h0, List.append_nil] at hX ⊢
        have hl0 : l.length = 0 := by rw [h0]; rfl
        have hc2 : acc = l0 ++ I := by
          rw [hc]
          subst h0
          rw [textL_nil, List.append_nil]
        rw [← hc2]
        clear hX hc hI hc2 h0
        refine DW.walk ?_
        exact ⟨.inl rfl, ResL.unitA⟩
      · rw [if_neg h0] at hX ⊢
        have hl0 : 0 < l.length := List.length_pos_iff.2 h0
        have hc2 : acc ++ [41] = l0 ++ (I ++ (textL Lib.itoa 40 l ++ [41])) := by rw [hc]; simp
        rw [← hc2] at hX ⊢
        have hwb := wb_used acc 41 (by rw [List.length_append] at hX; exact hX)
        have hwb : DLend Tryd.prog 67 [.ref 3436145868800003 0, .flat (.int .u8 41)] [(3436145868800003, some (.box [.ref 3436145868800003 0, .own 3436145868800004 (acc).length])), (3436145868800004, some (.row 5 1 (acc).length (bD (acc))))] [(3436145868800003, some (.box [.ref 3436145868800003 0, .own 3436145868800004 (acc ++ [41]).length])), (3436145868800004, some (.row 5 1 (acc ++ [41]).length (bD (acc ++ [41]))))] (.flat .nilIface) := hwb
        have e4 := bD_pers (acc ++ [41])
        clear hX hc hI hc2 h0
        generalize acc ++ [41] = A at *
        refine DW.walk ?_
        exact ⟨.inl rfl, ResL.unitA⟩
end Go.Proofs.YtohjapcafkhabaaDoor
