/- Logs shut; entries cut. No condition. -/
import Derived.Test.YtjmljmappfhiaaaDoorVP
set_option linter.unusedSimpArgs false
set_option linter.unusedVariables false
set_option maxHeartbeats 1000000
set_option maxRecDepth 8000
namespace Go.Proofs.YtjmljmappfhiaaaDoor
open Go Go.RowKit Go.PP Go.Dm

/-- A log of one's own is shut. -/
theorem Vs.shutLog {σ σ' : Sg} {x : D} {w : List (Bs × Bs)} (hx : x = .ref 429496729600001 0) (h1 : lkE σ 429496729600001 = some (.box [.own 429496729600002 w.length])) (h2 : lkE σ 429496729600002 = some (.row 29 2 w.length (entsC w))) (d1 : lkE σ' 429496729600001 = none) (d2 : lkE σ' 429496729600002 = none) : Vs σ σ' x (.ptr [entsD w] 0) := by
  subst hx
  refine Vs.shut (pe := logB w) ⟨h1, h2, trivial⟩ (log_view w) ?_
  intro id hid
  simp only [logB, keys, List.map_cons, List.map_nil, List.mem_cons, List.not_mem_nil, or_false] at hid
  rcases hid with rfl | rfl
  · exact d1
  · exact d2
theorem cut_small (l : List (Bs × Bs)) : (cutE l).length ≤ 30 := by rw [cut_len]; omega
theorem cut_mem {l : List (Bs × Bs)} (hb : ∀ e ∈ l, e.1.length ≤ 281474976710656) : ∀ e ∈ cutE l, e.1.length ≤ 281474976710656 ∧ e.2.length ≤ 281474976710656 := fun e he => by
  obtain ⟨x, hx, rfl⟩ := List.mem_map.1 he
  refine ⟨hb x (List.mem_of_mem_take hx), ?_⟩
  show (x.2.take 200).length ≤ _
  rw [List.length_take]; omega
end Go.Proofs.YtjmljmappfhiaaaDoor
