/- Contracts over data: logs made of the valid entries. No condition. -/
import Derived.Test.YtjmljmappfhiaaaDoorYN2

set_option linter.unusedSimpArgs false
set_option linter.unusedVariables false
set_option maxHeartbeats 1000000
set_option maxRecDepth 8000
namespace Go.Proofs.YtjmljmappfhiaaaDoor
open Go Go.RowKit Go.PP Go.Dm

def okE (e : Bs × Bs) : Bool := decide (errE e = 0)
def goodE (l : List (Bs × Bs)) : List (Bs × Bs) := l.filter okE
theorem good_sm {l : List (Bs × Bs)} (hl : l.length ≤ 5000) : Sm (goodE l) :=
  ⟨Nat.le_trans (List.length_filter_le _ _) hl, fun e he => by
    have := (List.mem_filter.1 he).2
    obtain ⟨h1, h2, _⟩ := err_ok (of_decide_eq_true this)
    exact ⟨h1, h2⟩⟩
theorem made_d (l : List (Bs × Bs)) (hl : l.length ≤ 5000) (hb : ∀ e ∈ l, e.1.length ≤ 281474976710656 ∧ e.2.length ≤ 281474976710656) : DFun Tryd.prog 25 [entsD l] (.tup [.ptr [entsD (goodE l)] 0, entsD (goodE l)]) := by
  have hn := new_l
  refine DFun.enterA Tryd.func25 Tryd.ntmps25 ?_
  refine DW.walk ?_
  refine DW.adopt 5 5 31 2 rfl rfl ?_
  refine DW.adoptBox 429496729600001 0 429496729600002 29 2 rfl rfl rfl ?_
  refine DW.loopA (fun j : Nat => ⟨[(0, entsD l), (4, .ref 429496729600001 0), (5, .own 5 (goodE (l.take j)).length), (6, .flat (.int .i64 j))], [(429496729600001, some (.box [.own 429496729600002 (goodE (l.take j)).length])), (429496729600002, some (.row 29 2 (goodE (l.take j)).length (entsC (goodE (l.take j))))), (5, some (.row 31 2 (goodE (l.take j)).length (entsC (goodE (l.take j))))), (7, none)]⟩) (fun j => j ≤ l.length) (fun j => l.length - j) 0 ?_ (by omega)
  intro j hj
  rcases Nat.lt_or_ge j l.length with hlt | hge
  · obtain ⟨e, he⟩ : ∃ e, l[j]? = some e := ⟨l[j], by simp⟩
    have h0 := ent_f0 he
    have h1 := ent_f1 he
    have h2 := ent_part he
    have hbe := hb e (List.mem_of_getElem? he)
    have hck := checkN_d e hbe.1 hbe.2
    have hf : goodE (l.take (j + 1)) = goodE (l.take j) ++ (if okE e then [e] else []) := filter_take okE he
    have hfl : (goodE (l.take j)).length ≤ j := Nat.le_trans (List.length_filter_le _ _) (by simp; omega)
    by_cases hp : errE e = 0
    · have hp' : okE e = true := decide_eq_true hp
      have ha := append_ok (goodE (l.take j)) (by omega) e hp
      rw [hp] at hck
      rw [if_pos hp'] at hf
      have hlen : (goodE (l.take j)).length + 1 = (goodE (l.take (j + 1))).length := by rw [hf]; simp
      have hrow : entsC (goodE (l.take j)) ++ [strD e.1, strD e.2] = entsC (goodE (l.take (j + 1))) := by rw [hf]; simp [entsC, entC]
      have hpe := entsC_pers (goodE (l.take j))
      have hpe2 := entsC_pers (goodE (l.take (j + 1)))
      rw [← hf] at ha
      unfold logB at ha
      refine DW.walk ?_
      exact ⟨j + 1, by omega, by omega, Sub.auto⟩
    · have hp' : okE e = false := decide_eq_false hp
      have hpi : decide (errE e ≠ 0) = true := decide_eq_true hp
      rw [hp'] at hf
      simp only [Bool.false_eq_true, if_false, List.append_nil] at hf
      have hpe := entsC_pers (goodE (l.take j))
      generalize errE e = x at hck hpi hp
      refine DW.walk ?_
      refine ⟨j + 1, by omega, by omega, ?_⟩
      rw [hf]
      exact Sub.auto
  · have hje : j = l.length := by omega
    subst hje
    rw [List.take_length]
    refine DW.walk ?_
    exact ⟨.inr rfl, ResOk.two [(429496729600001, some (.box [.own 429496729600002 _])), (429496729600002, some (.row 29 2 _ _)), (5, some (.row 31 2 _ _))] rfl rfl rfl ⟨rfl, rfl, rfl, trivial⟩ (Vw.ref (.head _) (VwL.cons (Vw.own (.tail _ (.head _)) (VwL.pers (entsC_pers _))) VwL.nil) (by intro h; cases h)) (Vw.own (.tail _ (.tail _ (.head _))) (VwL.pers (entsC_pers _)))⟩
end Go.Proofs.YtjmljmappfhiaaaDoor

set_option linter.unusedSimpArgs false
set_option linter.unusedVariables false
set_option maxHeartbeats 1000000
set_option maxRecDepth 8000
namespace Go.Proofs.YtjmljmappfhiaaaDoor
open Go Go.RowKit Go.PP Go.Dm

/-- A log of one's own is shut. -/
theorem Vs.shutLog {σ σ' : Sg} {x : D} {w : List (Bs × Bs)} (hx : x = .ref 429496729600001 0) (h1 : lkE σ 429496729600001 = some (.box [.own 429496729600002 w.length])) (h2 : lkE σ 429496729600002 = some (.row 29 2 w.length (entsC w))) (d1 : lkE σ' 429496729600001 = none) (d2 : lkE σ' 429496729600002 = none) : Vs σ σ' x (.ptr [entsD w] 0) := by
  subst hx
  refine Vs.shut (pe := logB w) ⟨h1, h2, trivial⟩ (log_view w) ?_
  intro id hid
  simp only [logB, keys, List.map_cons, List.map_nil, List.mem_cons, List.not_mem_nil, or_false] at hid
  rcases hid with rfl | rfl
  · exact d1
  · exact d2
theorem cut_small (l : List (Bs × Bs)) : (cutE l).length ≤ 30 := by rw [cut_len]; omega
theorem cut_mem {l : List (Bs × Bs)} (hb : ∀ e ∈ l, e.1.length ≤ 281474976710656) : ∀ e ∈ cutE l, e.1.length ≤ 281474976710656 ∧ e.2.length ≤ 281474976710656 := fun e he => by
  obtain ⟨x, hx, rfl⟩ := List.mem_map.1 he
  refine ⟨hb x (List.mem_of_mem_take hx), ?_⟩
  show (x.2.take 200).length ≤ _
  rw [List.length_take]; omega
end Go.Proofs.YtjmljmappfhiaaaDoor
