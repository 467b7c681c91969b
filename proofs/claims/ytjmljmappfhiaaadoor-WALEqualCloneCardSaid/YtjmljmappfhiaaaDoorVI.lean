/- Contracts over data: the entries that a predicate takes. No condition. -/
import Derived.Test.YtjmljmappfhiaaaDoorVH
import Derived.Test.YtjmljmappfhiaaaDoorNN
set_option linter.unusedSimpArgs false
set_option linter.unusedVariables false
set_option maxHeartbeats 1000000
set_option maxRecDepth 8000
namespace Go.Proofs.YtjmljmappfhiaaaDoor
open Go Go.RowKit Go.PP Go.Dm

theorem filter_take {l : List (Bs × Bs)} {j : Nat} {e : Bs × Bs} (p : Bs × Bs → Bool) (h : l[j]? = some e) : (l.take (j + 1)).filter p = (l.take j).filter p ++ (if p e then [e] else []) := by
  rw [List.take_add_one, h, List.filter_append]
  by_cases hp : p e <;> simp [hp]
theorem some_l (k : Nat) (caps : List D) (p : Bs × Bs → Bool) (hk : Enters Tryd.prog k) (hcap : persL caps = true) (l : List (Bs × Bs)) (hl : l.length ≤ 100000) (hc : ∀ e ∈ l, DFun Tryd.prog k (entD e :: caps) (.flat (.bool (p e)))) :
    DLend Tryd.prog 40 [.ptr [entsD l] 0, .clo (.func k) [] caps] [(1040, none)] [(1040, some (.row 29 2 (l.filter p).length (entsC (l.filter p))))] (.own 1040 (l.filter p).length) := by
  have hcp : Dm.pers (.clo (.func k) [] caps) = true := by simp [Dm.pers, persL, hcap]
  refine DLend.enterA Tryd.func40 Tryd.ntmps40 ?_
  refine DW.walk ?_
  refine DW.adopt 5 1040 29 2 rfl rfl ?_
  refine DW.loopA (fun j : Nat => ⟨[(1, .clo (.func k) [] caps), (5, .own 1040 ((l.take j).filter p).length), (13, entsD l), (14, .flat (.int .i64 l.length)), (15, .flat (.int .i64 j))], [(1040, some (.row 29 2 ((l.take j).filter p).length (entsC ((l.take j).filter p)))), (7, none)]⟩) (fun j => j ≤ l.length) (fun j => l.length - j) 0 ?_ (by omega)
  intro j hj
  rcases Nat.lt_or_ge j l.length with hlt | hge
  · obtain ⟨e, he⟩ : ∃ e, l[j]? = some e := ⟨l[j], by simp⟩
    have h0 := ent_part he
    have hf := filter_take p he
    have hce := hc e (List.mem_of_getElem? he)
    have hfl : ((l.take j).filter p).length ≤ j := Nat.le_trans (List.length_filter_le _ _) (by simp; omega)
    cases hp : p e with
    | false =>
      rw [hp] at hf hce
      simp only [Bool.false_eq_true, if_false, List.append_nil] at hf
      have hpe := entsC_pers ((l.take j).filter p)
      refine DW.walk ?_
      refine ⟨j + 1, by omega, by omega, ?_⟩
      rw [hf]
      exact Sub.auto
    | true =>
      rw [hp] at hf hce
      rw [if_pos rfl] at hf
      have hrow : entsC ((l.take j).filter p) ++ [strD e.1, strD e.2] = entsC ((l.take (j + 1)).filter p) := by rw [hf]; simp [entsC, entC]
      have hpe := entsC_pers ((l.take (j + 1)).filter p)
      have hlen : ((l.take j).filter p).length + 1 = ((l.take (j + 1)).filter p).length := by rw [hf]; simp
      refine DW.walk ?_
      exact ⟨j + 1, by omega, by omega, Sub.auto⟩
  · have hje : j = l.length := by omega
    subst hje
    rw [List.take_length]
    have hpe := entsC_pers (l.filter p)
    refine DW.walk ?_
    exact ⟨.inr rfl, ResL.oneA⟩
theorem some_lb (k : Nat) (caps : List D) (p : Bs × Bs → Bool) (hk : Enters Tryd.prog k) (hcap : persL caps = true) (l : List (Bs × Bs)) (hl : l.length ≤ 100000) (hc : ∀ e ∈ l, DFun Tryd.prog k (entD e :: caps) (.flat (.bool (p e)))) :
    DLend Tryd.prog 40 [.ptr [entsD l] 0, .clo (.func k) [] caps] [(429496729600002, none)] [(429496729600002, some (.row 29 2 (l.filter p).length (entsC (l.filter p))))] (.own 429496729600002 (l.filter p).length) := by
  have hcp : Dm.pers (.clo (.func k) [] caps) = true := by simp [Dm.pers, persL, hcap]
  refine DLend.enterA Tryd.func40 Tryd.ntmps40 ?_
  refine DW.walk ?_
  refine DW.adopt 5 429496729600002 29 2 rfl rfl ?_
  refine DW.loopA (fun j : Nat => ⟨[(1, .clo (.func k) [] caps), (5, .own 429496729600002 ((l.take j).filter p).length), (13, entsD l), (14, .flat (.int .i64 l.length)), (15, .flat (.int .i64 j))], [(429496729600002, some (.row 29 2 ((l.take j).filter p).length (entsC ((l.take j).filter p)))), (7, none)]⟩) (fun j => j ≤ l.length) (fun j => l.length - j) 0 ?_ (by omega)
  intro j hj
  rcases Nat.lt_or_ge j l.length with hlt | hge
  · obtain ⟨e, he⟩ : ∃ e, l[j]? = some e := ⟨l[j], by simp⟩
    have h0 := ent_part he
    have hf := filter_take p he
    have hce := hc e (List.mem_of_getElem? he)
    have hfl : ((l.take j).filter p).length ≤ j := Nat.le_trans (List.length_filter_le _ _) (by simp; omega)
    cases hp : p e with
    | false =>
      rw [hp] at hf hce
      simp only [Bool.false_eq_true, if_false, List.append_nil] at hf
      have hpe := entsC_pers ((l.take j).filter p)
      refine DW.walk ?_
      refine ⟨j + 1, by omega, by omega, ?_⟩
      rw [hf]
      exact Sub.auto
    | true =>
      rw [hp] at hf hce
      rw [if_pos rfl] at hf
      have hrow : entsC ((l.take j).filter p) ++ [strD e.1, strD e.2] = entsC ((l.take (j + 1)).filter p) := by rw [hf]; simp [entsC, entC]
      have hpe := entsC_pers ((l.take (j + 1)).filter p)
      have hlen : ((l.take j).filter p).length + 1 = ((l.take (j + 1)).filter p).length := by rw [hf]; simp
      refine DW.walk ?_
      exact ⟨j + 1, by omega, by omega, Sub.auto⟩
  · have hje : j = l.length := by omega
    subst hje
    rw [List.take_length]
    have hpe := entsC_pers (l.filter p)
    refine DW.walk ?_
    exact ⟨.inr rfl, ResL.oneA⟩
theorem some_nil (k : Nat) (caps : List D) (hcap : persL caps = true) : DFun Tryd.prog 40 [.flat (.pointer none), .clo (.func k) [] caps] (.flat (.slice none 0 0)) := by
  have hcp : Dm.pers (.clo (.func k) [] caps) = true := by simp [Dm.pers, persL, hcap]
  refine DFun.enterA Tryd.func40 Tryd.ntmps40 ?_
  refine DW.walk ?_
  exact ⟨.inr rfl, ResOk.one [] rfl rfl trivial (Vw.pers rfl)⟩
end Go.Proofs.YtjmljmappfhiaaaDoor
