/- Contracts over data: encodings of lists; names. No condition. -/
import Derived.Test.YtjmljmappfhiaaaDoorVK
set_option linter.unusedSimpArgs false
set_option linter.unusedVariables false
set_option maxHeartbeats 1000000
set_option maxRecDepth 8000
namespace Go.Proofs.YtjmljmappfhiaaaDoor
open Go Go.RowKit Go.PP Go.Dm

/-- Small lists of entries: few, with short names and data. -/
def Sm (l : List (Bs × Bs)) : Prop := l.length ≤ 5000 ∧ ∀ e ∈ l, e.1.length ≤ 32 ∧ e.2.length ≤ 65536
def allW (l : List (Bs × Bs)) : Bs := l.flatMap encW
theorem encW_len (e : Bs × Bs) (h1 : e.1.length ≤ 32) (h2 : e.2.length ≤ 65536) : (encW e).length ≤ 65600 := by
  have hdl : (Lib.decDigits e.2.length).length ≤ 6 := by
    rw [dec_digs]
    exact Nat.le_trans (digs_len1 10 (by omega) 5 e.2.length (by omega)) (by omega)
  unfold encW
  have := nibs_len (sumB (e.1 ++ [10] ++ e.2)).toNat 8
  simp only [List.length_append, List.length_cons, List.length_nil, this]
  omega
theorem allW_take {l : List (Bs × Bs)} {j : Nat} {e : Bs × Bs} (h : l[j]? = some e) : allW (l.take (j + 1)) = allW (l.take j) ++ encW e := by
  unfold allW
  rw [List.take_add_one, h, List.flatMap_append]; simp
theorem allW_len {l : List (Bs × Bs)} (h : Sm l) : ∀ j ≤ l.length, (allW (l.take j)).length ≤ j * 65600
  | 0, _ => by simp [allW]
  | j + 1, hj => by
    have he : l[j]? = some l[j] := by simp
    have := allW_len h j (by omega)
    have h2 := h.2 l[j] (List.getElem_mem _)
    have := encW_len l[j] h2.1 h2.2
    rw [allW_take he, List.length_append]; omega
theorem bytesL_l (l : List (Bs × Bs)) (h : Sm l) : DLend Tryd.prog 20 [.ptr [entsD l] 0] [(1050, none)] [(1050, some (.row 5 1 (allW l).length (bD (allW l))))] (.own 1050 (allW l).length) := by
  have hc := entries_d l (by have := h.1; omega)
  have hl := h.1
  refine DLend.enterA Tryd.func20 Tryd.ntmps20 ?_
  refine DW.walk ?_
  refine DW.adopt 3 1050 5 1 rfl rfl ?_
  refine DW.loopA (fun j : Nat => ⟨[(3, .own 1050 (allW (l.take j)).length), (7, entsD l), (8, .flat (.int .i64 l.length)), (9, .flat (.int .i64 j))], [(1050, some (.row 5 1 (allW (l.take j)).length (bD (allW (l.take j))))), (5, none)]⟩) (fun j => j ≤ l.length) (fun j => l.length - j) 0 ?_ (by omega)
  intro j hj
  have hal := allW_len h j hj
  rcases Nat.lt_or_ge j l.length with hlt | hge
  · obtain ⟨e, he⟩ : ∃ e, l[j]? = some e := ⟨l[j], by simp⟩
    have h0 := ent_part he
    have hw := allW_take he
    have hs := h.2 e (List.mem_of_getElem? he)
    have hb := bytes_d e hs.1 hs.2
    have hbl := encW_len e hs.1 hs.2
    have hrow : bD (allW (l.take j)) ++ bD (encW e) = bD (allW (l.take (j + 1))) := by rw [hw]; simp [bD]
    have hlen : (allW (l.take j)).length + (encW e).length = (allW (l.take (j + 1))).length := by rw [hw]; simp
    have hpe := bD_pers (allW (l.take (j + 1)))
    refine DW.walk ?_
    exact ⟨j + 1, by omega, by omega, Sub.auto⟩
  · have hje : j = l.length := by omega
    subst hje
    rw [List.take_length]
    have hpe := bD_pers (allW l)
    refine DW.walk ?_
    exact ⟨.inr rfl, ResL.oneA⟩
theorem bytesL_d (l : List (Bs × Bs)) (h : Sm l) : DFun Tryd.prog 20 [.ptr [entsD l] 0] (bytesD (allW l)) :=
  (bytesL_l l h).toFun rfl ⟨by simp [lkE], trivial⟩ (Vw.own (.head _) (VwL.pers (bD_pers _)))
theorem allR_d (l : List (Bs × Bs)) (h : Sm l) : DFun Tryd.prog 21 [entsD l] (bytesD (allW l)) := by
  have hl := h.1
  refine DFun.enterA Tryd.func21 Tryd.ntmps21 ?_
  refine DW.walk ?_
  refine DW.adopt 3 3 5 1 rfl rfl ?_
  refine DW.loopA (fun j : Nat => ⟨[(0, entsD l), (3, .own 3 (allW (l.take j)).length), (4, .flat (.int .i64 j))], [(3, some (.row 5 1 (allW (l.take j)).length (bD (allW (l.take j)))))]⟩) (fun j => j ≤ l.length) (fun j => l.length - j) 0 ?_ (by omega)
  intro j hj
  have hal := allW_len h j hj
  rcases Nat.lt_or_ge j l.length with hlt | hge
  · obtain ⟨e, he⟩ : ∃ e, l[j]? = some e := ⟨l[j], by simp⟩
    have h0 := ent_part he
    have hw := allW_take he
    have hs := h.2 e (List.mem_of_getElem? he)
    have hb := bytesN_d e hs.1 hs.2
    rw [← encW_eq] at hb
    have hbl := encW_len e hs.1 hs.2
    have hrow : bD (allW (l.take j)) ++ bD (encW e) = bD (allW (l.take (j + 1))) := by rw [hw]; simp [bD]
    have hlen : (allW (l.take j)).length + (encW e).length = (allW (l.take (j + 1))).length := by rw [hw]; simp
    have hpe := bD_pers (allW (l.take (j + 1)))
    refine DW.walk ?_
    exact ⟨j + 1, by omega, by omega, Sub.auto⟩
  · have hje : j = l.length := by omega
    subst hje
    rw [List.take_length]
    refine DW.walk ?_
    exact ⟨.inr rfl, ResOk.one [(3, some (.row 5 1 _ _))] rfl rfl ⟨rfl, trivial⟩ (Vw.own (.head _) (VwL.pers (bD_pers _)))⟩

end Go.Proofs.YtjmljmappfhiaaaDoor
