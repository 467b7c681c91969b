/- Contracts over data: the log. No condition. -/
import Derived.Test.YtjmljmappfhiaaaDoorVG
set_option linter.unusedSimpArgs false
set_option linter.unusedVariables false
set_option maxHeartbeats 1000000
set_option maxRecDepth 8000
namespace Go.Proofs.YtjmljmappfhiaaaDoor
open Go Go.RowKit Go.PP Go.Dm

theorem new_d : DFun Tryd.prog 12 [] (.ptr [.flat (.slice none 0 0)] 0) := by
  refine DFun.enterA Tryd.func12 Tryd.ntmps12 ?_
  refine DW.walk ?_
  exact ⟨.inr rfl, ResOk.one [(2, some (.box [.flat (.slice none 0 0)]))] rfl rfl ⟨rfl, trivial⟩ (Vw.ref (.head _) (VwL.pers rfl) (by intro h; cases h))⟩
/-- A log of one's own that is lent: its box and its row. -/
def logB (l : List (Bs × Bs)) : Sg := [(429496729600001, some (.box [.own 429496729600002 l.length])), (429496729600002, some (.row 29 2 l.length (entsC l)))]
theorem err_ok {e : Bs × Bs} (h : errE e = 0) : e.1.length ≤ 32 ∧ e.2.length ≤ 65536 ∧ nameOk e.1 = true := by
  unfold errE at h
  cases hn : nameOk e.1 with
  | false => rw [hn, if_pos rfl] at h; cases h
  | true =>
    rw [hn, if_neg (by decide)] at h
    refine ⟨?_, ?_, rfl⟩
    · unfold nameOk at hn
      simp at hn
      omega
    · split at h
      · cases h
      · omega
theorem append_ok (l : List (Bs × Bs)) (hl : l.length < 65536) (e : Bs × Bs) (h : errE e = 0) : DLend Tryd.prog 13 [.ref 429496729600001 0, entD e] (logB l) (logB (l ++ [e])) (.tup [bytesD (encW e), .flat (.int .i64 0)]) := by
  obtain ⟨h1, h2, _⟩ := err_ok h
  have hc := check_d e (by omega) (by omega)
  have hb := bytes_d e h1 h2
  rw [h] at hc
  have hrow : entsC l ++ [strD e.1, strD e.2] = entsC (l ++ [e]) := by simp [entsC, entC]
  have hpe := entsC_pers (l ++ [e])
  have hlen : (l ++ [e]).length = l.length + 1 := by simp
  unfold logB
  rw [hlen]
  obtain ⟨a, b⟩ := e
  refine DLend.enterA Tryd.func13 Tryd.ntmps13 ?_
  refine DW.walk ?_
  exact ⟨.inr rfl, ResL.twoA⟩
theorem append_err (l : List (Bs × Bs)) (hl : l.length < 65536) (e : Bs × Bs) (h1 : e.1.length ≤ 281474976710656) (h2 : e.2.length ≤ 281474976710656) (h : errE e ≠ 0) : DLend Tryd.prog 13 [.ref 429496729600001 0, entD e] (logB l) (logB l) (.tup [.flat (.slice none 0 0), .flat (.int .i64 (errE e))]) := by
  have hc := check_d e h1 h2
  generalize hx : errE e = x at hc h ⊢
  have hpe := entsC_pers l
  unfold logB
  obtain ⟨a, b⟩ := e
  refine DLend.enterA Tryd.func13 Tryd.ntmps13 ?_
  refine DW.walk ?_
  exact ⟨.inr rfl, ResL.twoA⟩
end Go.Proofs.YtjmljmappfhiaaaDoor
