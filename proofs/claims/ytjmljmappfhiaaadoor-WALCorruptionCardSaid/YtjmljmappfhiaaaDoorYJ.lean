/- Contracts over data: the entries that a predicate takes. No condition. -/
import Derived.Test.YtjmljmappfhiaaaDoorYY
import Derived.Test.YtjmljmappfhiaaaDoorXN

set_option linter.unusedSimpArgs false
set_option linter.unusedVariables false
set_option maxHeartbeats 1000000
set_option maxRecDepth 8000
namespace Go.Proofs.YtjmljmappfhiaaaDoor
open Go Go.RowKit Go.PP Go.Dm

theorem filter_take {l : List (Bs × Bs)} {j : Nat} {e : Bs × Bs} (p : Bs × Bs → Bool) (h : l[j]? = some e) : (l.take (j + 1)).filter p = (l.take j).filter p ++ (if p e then [e] else []) := by
  rw [List.take_add_one, h, List.filter_append]
  by_cases hp : p e <;> simp [hp]
theorem some_l (k : Nat) (caps : List D) (p : Bs × Bs → Bool) (hk : Enters Tryd.prog k) (hcap : persL caps = true) (l : List (Bs × Bs)) (hl : l.length ≤ 100000) (hc : ∀ e ∈ l, DFun Tryd.prog k (entD e :: caps) (.flat (.bool (p e)))) :
    DLend Tryd.prog 40 [.ptr [entsD l] 0, .clo (.func k) [] caps] [(1040, none)] [(1040, some (.row 29 2 (l.filter p).length (entsC (l.filter p))))] (.own 1040 (l.filter p).length) := by
  have hcp : Dm.pers (.clo (.func k) [] caps) = true := by simp [Dm.pers, persL, hcap]
  refine DLend.enterA Tryd.func40 Tryd.ntmps40 ?_
  refine DW.walk ?_
  refine DW.adopt 5 1040 29 2 rfl rfl ?_
  refine DW.loopA (fun j : Nat => ⟨[(1, .clo (.func k) [] caps), (5, .own 1040 ((l.take j).filter p).length), (13, entsD l), (14, .flat (.int .i64 l.length)), (15, .flat (.int .i64 j))], [(1040, some (.row 29 2 ((l.take j).filter p).length (entsC ((l.take j).filter p)))), (7, none)]⟩) (fun j => j ≤ l.length) (fun j => l.length - j) 0 ?_ (by omega)
  intro j hj
  rcases Nat.lt_or_ge j l.length with hlt | hge
  · obtain ⟨e, he⟩ : ∃ e, l[j]? = some e := ⟨l[j], by simp⟩
    have h0 := ent_part he
    have hf := filter_take p he
    have hce := hc e (List.mem_of_getElem? he)
    have hfl : ((l.take j).filter p).length ≤ j := Nat.le_trans (List.length_filter_le _ _) (by simp; omega)
    cases hp : p e with
    | false =>
      rw [hp] at hf hce
      simp only [Bool.false_eq_true, if_false, List.append_nil] at hf
      have hpe := entsC_pers ((l.take j).filter p)
      refine DW.walk ?_
      refine ⟨j + 1, by omega, by omega, ?_⟩
      rw [hf]
      exact Sub.auto
    | true =>
      rw [hp] at hf hce
      rw [if_pos rfl] at hf
      have hrow : entsC ((l.take j).filter p) ++ [strD e.1, strD e.2] = entsC ((l.take (j + 1)).filter p) := by rw [hf]; simp [entsC, entC]
      have hpe := entsC_pers ((l.take (j + 1)).filter p)
      have hlen : ((l.take j).filter p).length + 1 = ((l.take (j + 1)).filter p).length := by rw [hf]; simp
      refine DW.walk ?_
      exact ⟨j + 1, by omega, by omega, Sub.auto⟩
  · have hje : j = l.length := by omega
    subst hje
    rw [List.take_length]
    have hpe := entsC_pers (l.filter p)
    refine DW.walk ?_
    exact ⟨.inr rfl, ResL.oneA⟩
theorem some_lb (k : Nat) (caps : List D) (p : Bs × Bs → Bool) (hk : Enters Tryd.prog k) (hcap : persL caps = true) (l : List (Bs × Bs)) (hl : l.length ≤ 100000) (hc : ∀ e ∈ l, DFun Tryd.prog k (entD e :: caps) (.flat (.bool (p e)))) :
    DLend Tryd.prog 40 [.ptr [entsD l] 0, .clo (.func k) [] caps] [(429496729600002, none)] [(429496729600002, some (.row 29 2 (l.filter p).length (entsC (l.filter p))))] (.own 429496729600002 (l.filter p).length) := by
  have hcp : Dm.pers (.clo (.func k) [] caps) = true := by simp [Dm.pers, persL, hcap]
  refine DLend.enterA Tryd.func40 Tryd.ntmps40 ?_
  refine DW.walk ?_
  refine DW.adopt 5 429496729600002 29 2 rfl rfl ?_
  refine DW.loopA (fun j : Nat => ⟨[(1, .clo (.func k) [] caps), (5, .own 429496729600002 ((l.take j).filter p).length), (13, entsD l), (14, .flat (.int .i64 l.length)), (15, .flat (.int .i64 j))], [(429496729600002, some (.row 29 2 ((l.take j).filter p).length (entsC ((l.take j).filter p)))), (7, none)]⟩) (fun j => j ≤ l.length) (fun j => l.length - j) 0 ?_ (by omega)
  intro j hj
  rcases Nat.lt_or_ge j l.length with hlt | hge
  · obtain ⟨e, he⟩ : ∃ e, l[j]? = some e := ⟨l[j], by simp⟩
    have h0 := ent_part he
    have hf := filter_take p he
    have hce := hc e (List.mem_of_getElem? he)
    have hfl : ((l.take j).filter p).length ≤ j := Nat.le_trans (List.length_filter_le _ _) (by simp; omega)
    cases hp : p e with
    | false =>
      rw [hp] at hf hce
      simp only [Bool.false_eq_true, if_false, List.append_nil] at hf
      have hpe := entsC_pers ((l.take j).filter p)
      refine DW.walk ?_
      refine ⟨j + 1, by omega, by omega, ?_⟩
      rw [hf]
      exact Sub.auto
    | true =>
      rw [hp] at hf hce
      rw [if_pos rfl] at hf
      have hrow : entsC ((l.take j).filter p) ++ [strD e.1, strD e.2] = entsC ((l.take (j + 1)).filter p) := by rw [hf]; simp [entsC, entC]
      have hpe := entsC_pers ((l.take (j + 1)).filter p)
      have hlen : ((l.take j).filter p).length + 1 = ((l.take (j + 1)).filter p).length := by rw [hf]; simp
      refine DW.walk ?_
      exact ⟨j + 1, by omega, by omega, Sub.auto⟩
  · have hje : j = l.length := by omega
    subst hje
    rw [List.take_length]
    have hpe := entsC_pers (l.filter p)
    refine DW.walk ?_
    exact ⟨.inr rfl, ResL.oneA⟩
theorem some_nil (k : Nat) (caps : List D) (hcap : persL caps = true) : DFun Tryd.prog 40 [.flat (.pointer none), .clo (.func k) [] caps] (.flat (.slice none 0 0)) := by
  have hcp : Dm.pers (.clo (.func k) [] caps) = true := by simp [Dm.pers, persL, hcap]
  refine DFun.enterA Tryd.func40 Tryd.ntmps40 ?_
  refine DW.walk ?_
  exact ⟨.inr rfl, ResOk.one [] rfl rfl trivial (Vw.pers rfl)⟩
end Go.Proofs.YtjmljmappfhiaaaDoor

set_option linter.unusedSimpArgs false
set_option linter.unusedVariables false
set_option maxHeartbeats 1000000
set_option maxRecDepth 8000
namespace Go.Proofs.YtjmljmappfhiaaaDoor
open Go Go.RowKit Go.PP Go.Dm

abbrev strsD (l : List Bs) : D := .sl false 1 l.length (l.map strD)
theorem strs_pers (l : List Bs) : persL (l.map strD) = true := persL_map (fun _ => rfl) l
theorem str_at {l : List Bs} {j : Nat} {c : Bs} (h : l[j]? = some c) : partD false 1 (j * 1) (l.map strD) = some (strD c) := part_map (f := strD) h
theorem notin_take {l : List Bs} {j : Nat} {c s : Bs} (h : l[j]? = some c) (h0 : s ∉ l.take j) (hc : ¬ c = s) : s ∉ l.take (j + 1) := by
  rw [List.take_add_one, h]
  simp only [List.mem_append, Option.toList_some, List.mem_singleton, not_or]
  exact ⟨h0, fun e => hc e.symm⟩
theorem in_d (l : List Bs) (s : Bs) (hl : l.length ≤ 281474976710656) : DFun Tryd.prog 42 [strsD l, strD s] (.flat (.bool (decide (s ∈ l)))) := by
  refine DFun.enterA Tryd.func42 Tryd.ntmps42 ?_
  refine DW.walk ?_
  refine DW.loopA (fun j : Nat => ⟨[(0, strsD l), (1, strD s), (5, .flat (.int .i64 j))], []⟩) (fun j => j ≤ l.length ∧ s ∉ l.take j) (fun j => l.length - j) 0 ?_ ⟨by omega, by simp⟩
  intro j ⟨hj, hno⟩
  rcases Nat.lt_or_ge j l.length with hlt | hge
  · obtain ⟨c, hc⟩ : ∃ c, l[j]? = some c := ⟨l[j], by simp⟩
    have hp := str_at hc
    by_cases hcs : c = s
    · have hb : decide (s ∈ l) = true := decide_eq_true (hcs ▸ List.mem_of_getElem? hc)
      rw [hb]
      refine DW.walk ?_
      exact ⟨.inr rfl, ResOk.one [] rfl rfl trivial (Vw.pers rfl)⟩
    · have hno' := notin_take hc hno hcs
      refine DW.walk ?_
      exact ⟨j + 1, ⟨by omega, hno'⟩, by omega, Sub.auto⟩
  · have hje : j = l.length := by omega
    subst hje
    rw [List.take_length] at hno
    rw [decide_eq_false hno]
    refine DW.walk ?_
    exact ⟨.inr rfl, ResOk.one [] rfl rfl trivial (Vw.pers rfl)⟩
theorem index_d (l : List Bs) (s : Bs) (hl : l.length ≤ 281474976710656) : ∃ i : Int, (decide (0 ≤ i) = decide (s ∈ l)) ∧ DFun Tryd.prog 51 [strsD l, strD s] (.flat (.int .i64 i)) := by
  by_cases hm : s ∈ l
  · refine ⟨(l.idxOf s : Nat), ?_, ?_⟩
    · rw [decide_eq_true hm]; exact decide_eq_true (by omega)
    have hk := List.idxOf_lt_length_of_mem hm
    have hks : l[l.idxOf s]? = some s := by rw [List.getElem?_eq_getElem hk, List.getElem_idxOf]
    have hbef : ∀ j c, j < l.idxOf s → l[j]? = some c → ¬ c = s := fun j c hj hc e => by
      subst e
      have := List.not_of_lt_findIdx (xs := l) (p := fun x => x == c) (i := j) (by simpa [List.idxOf] using hj)
      rw [List.getElem?_eq_getElem (by omega)] at hc
      simp only [Option.some.injEq] at hc
      rw [hc] at this; simp at this
    generalize l.idxOf s = k at hk hks hbef ⊢
    refine DFun.enterA Tryd.func51 Tryd.ntmps51 ?_
    refine DW.walk ?_
    refine DW.loopA (fun j : Nat => ⟨[(0, strsD l), (1, strD s), (7, .flat (.int .i64 l.length)), (8, .flat (.int .i64 j))], []⟩) (fun j => j ≤ k) (fun j => l.length - j) 0 ?_ (by omega)
    intro j hj
    obtain ⟨c, hc⟩ : ∃ c, l[j]? = some c := ⟨l[j]'(by omega), List.getElem?_eq_getElem (by omega)⟩
    have hp := str_at hc
    rcases Nat.lt_or_ge j k with hlt | hge
    · have hcs : ¬ s = c := fun e => hbef j c hlt hc e.symm
      refine DW.walk ?_
      exact ⟨j + 1, by omega, by omega, Sub.auto⟩
    · have hje : j = k := by omega
      subst hje
      have hsc : s = c := by rw [hks] at hc; exact Option.some.inj hc
      refine DW.walk ?_
      exact ⟨.inr rfl, ResOk.auto⟩
  · refine ⟨-1, ?_, ?_⟩
    · rw [decide_eq_false hm]; rfl
    refine DFun.enterA Tryd.func51 Tryd.ntmps51 ?_
    refine DW.walk ?_
    refine DW.loopA (fun j : Nat => ⟨[(0, strsD l), (1, strD s), (7, .flat (.int .i64 l.length)), (8, .flat (.int .i64 j))], []⟩) (fun j => j ≤ l.length) (fun j => l.length - j) 0 ?_ (by omega)
    intro j hj
    rcases Nat.lt_or_ge j l.length with hlt | hge
    · obtain ⟨c, hc⟩ : ∃ c, l[j]? = some c := ⟨l[j]'(by omega), List.getElem?_eq_getElem (by omega)⟩
      have hp := str_at hc
      have hcs : ¬ s = c := fun e => hm (e ▸ List.mem_of_getElem? hc)
      refine DW.walk ?_
      exact ⟨j + 1, by omega, by omega, Sub.auto⟩
    · have hje : j = l.length := by omega
      subst hje
      refine DW.walk ?_
      exact ⟨.inr rfl, ResOk.one [] rfl rfl trivial (Vw.pers rfl)⟩
theorem contains_d (l : List Bs) (s : Bs) (hl : l.length ≤ 281474976710656) : DFun Tryd.prog 45 [strsD l, strD s] (.flat (.bool (decide (s ∈ l)))) := by
  obtain ⟨i, hi, hd⟩ := index_d l s hl
  rw [← hi]
  refine DFun.enterA Tryd.func45 Tryd.ntmps45 ?_
  refine DW.walk ?_
  exact ⟨.inr rfl, ResOk.one [] rfl rfl trivial (Vw.pers rfl)⟩
theorem all_clo (e : Bs × Bs) : DFun Tryd.prog 41 [entD e] (.flat (.bool true)) := by
  refine DFun.enterA Tryd.func41 Tryd.ntmps41 ?_
  refine DW.walk ?_
  exact ⟨.inr rfl, ResOk.one [] rfl rfl trivial (Vw.pers rfl)⟩
theorem by_clo (s : Bs) (e : Bs × Bs) : DFun Tryd.prog 43 [entD e, .ptr [strD s] 0] (.flat (.bool (decide (e.1 = s)))) := by
  refine DFun.enterA Tryd.func43 Tryd.ntmps43 ?_
  refine DW.walk ?_
  exact ⟨.inr rfl, ResOk.one [] rfl rfl trivial (Vw.pers rfl)⟩
theorem without_clo (l : List Bs) (hl : l.length ≤ 281474976710656) (e : Bs × Bs) : DFun Tryd.prog 44 [entD e, .ptr [strsD l] 0] (.flat (.bool (!decide (e.1 ∈ l)))) := by
  have hc := contains_d l e.1 hl
  refine DFun.enterA Tryd.func44 Tryd.ntmps44 ?_
  refine DW.walk ?_
  exact ⟨.inr rfl, ResOk.one [] rfl rfl trivial (Vw.pers rfl)⟩
/-- What a function gives: a row of entries of the caller's own. -/
abbrev entRow (id : Nat) (l : List (Bs × Bs)) : Sg := [(id, some (.row 29 2 l.length (entsC l)))]
theorem ents_fun {k : FuncId} {args : List D} {id : Nat} {l : List (Bs × Bs)} (h : DLend Tryd.prog k args [(id, none)] (entRow id l) (.own id l.length)) : DFun Tryd.prog k args (entsD l) :=
  h.toFun rfl ⟨by simp [lkE], trivial⟩ (Vw.own (.head _) (VwL.pers (entsC_pers l)))
theorem filter_true (l : List (Bs × Bs)) : (l.filter fun _ => true) = l := List.filter_eq_self.2 fun _ _ => rfl
theorem entries_l (l : List (Bs × Bs)) (hl : l.length ≤ 100000) : DLend Tryd.prog 19 [.ptr [entsD l] 0] [(1040, none)] (entRow 1040 l) (.own 1040 l.length) := by
  have hc := some_l 41 [] (fun _ => true) (EntC.h (P := Tryd.prog)) rfl l hl (fun e _ => all_clo e)
  rw [filter_true] at hc
  have hc := hc.le (LeL.cons (Le.refl _) (LeL.cons Le.fn LeL.nil))
  have hpe := entsC_pers l
  refine DLend.enterA Tryd.func19 Tryd.ntmps19 ?_
  refine DW.walk ?_
  exact ⟨.inr rfl, ResL.oneA⟩
end Go.Proofs.YtjmljmappfhiaaaDoor
