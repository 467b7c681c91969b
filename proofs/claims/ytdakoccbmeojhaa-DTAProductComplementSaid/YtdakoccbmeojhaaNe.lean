/- Contracts over data from contracts that stand: Check, Equal, Same and their like. No condition. -/
import Derived.Test.YtdakoccbmeojhaaNd
import Derived.Test.YtdakoccbmeojhaaWa
import Derived.Test.YtdakoccbmeojhaaWb
import Derived.Test.YtdakoccbmeojhaaWc
import Derived.Test.YtdakoccbmeojhaaWm
import Derived.Test.YtdakoccbmeojhaaWn
set_option linter.unusedSimpArgs false
set_option linter.unusedVariables false
set_option maxHeartbeats 1000000
set_option maxRecDepth 8000
namespace Go.Proofs.Ytdakoccbmeojhaa
open Go Go.RowKit Go.PP Go.Dm

theorem au_in {M : Nat → Prop} {w : World} {v : Value} {A : Au} (h : Rep M w none (auD A) v) : ∃ v1 v2 v3, v = .agg #[v1, v2, v3] ∧ AuIn M w v1 v2 v3 A := by
  unfold auD at h
  simp only [Rep, RepL] at h
  obtain ⟨vs, rfl, u1, us1, rfl, h1, u2, us2, rfl, h2, u3, us3, rfl, h3, rfl⟩ := h
  exact ⟨u1, u2, u3, rfl, ints_of_rep h1, bools_of_rep h2, rows_of_rep h3⟩
theorem au_in0 {M : Nat → Prop} {w : World} {v : Value} {A : Au} (h : Rep M w none (auD A) v) : ∃ v1 v2 v3, v = .agg #[v1, v2, v3] ∧ AuIn (fun _ => False) w v1 v2 v3 A := by
  obtain ⟨v1, v2, v3, e, h1⟩ := au_in h
  exact ⟨v1, v2, v3, e, h1.mono (fun _ _ h => h.elim)⟩
theorem repl1 {M : Nat → Prop} {w : World} {d : D} {vals : List Value} (h : RepL M w none [d] vals) : ∃ v, vals = [v] ∧ Rep M w none d v := by
  simp only [RepL] at h
  obtain ⟨u, us, rfl, h1, rfl⟩ := h
  exact ⟨u, rfl, h1⟩
theorem repl2 {M : Nat → Prop} {w : World} {d e : D} {vals : List Value} (h : RepL M w none [d, e] vals) : ∃ v u, vals = [v, u] ∧ Rep M w none d v ∧ Rep M w none e u := by
  simp only [RepL] at h
  obtain ⟨u, us, rfl, h1, u2, us2, rfl, h2, rfl⟩ := h
  exact ⟨u, u2, rfl, h1, h2⟩
theorem ret_d {k : FuncId} {M : Nat → Prop} {w : World} {vals : Array Value} {v : Value} (h : Calls Try.prog k vals w (RetPost w v)) : Calls Try.prog k vals w (fun e w' => ∃ u, e = .returned u ∧ Rep M w' none (.flat v) u ∧ Fix w w') :=
  h.mono fun e w' ⟨h1, h2⟩ => ⟨v, h1, by simp only [Rep], h2⟩
theorem check_d (A : Au) : DFun Try.prog 20 [auD A] (.flat (.int .i64 (chk A : Nat))) := fun M w vals hM hv => by
  obtain ⟨v, rfl, h1⟩ := repl1 hv
  obtain ⟨v1, v2, v3, rfl, h2⟩ := au_in0 h1
  exact ret_d (check_any v1 v2 v3 A w h2)
theorem rcheck_d (A : Au) : DFun Try.prog 21 [auD A] (.flat (.int .i64 (chk A : Nat))) := fun M w vals hM hv => by
  obtain ⟨v, rfl, h1⟩ := repl1 hv
  obtain ⟨v1, v2, v3, rfl, h2⟩ := au_in0 h1
  exact ret_d (rcheck_any v1 v2 v3 A w h2)
theorem few_d (A : Au) : DFun Try.prog 13 [auD A] (boolD (fewB A)) := fun M w vals hM hv => by
  obtain ⟨v, rfl, h1⟩ := repl1 hv
  obtain ⟨v1, v2, v3, rfl, h2⟩ := au_in0 h1
  exact ret_d (few_any w v1 v2 v3 A h2)
theorem same_d (A B : Au) : DFun Try.prog 26 [auD A, auD B] (boolD (eqAu A B)) := fun M w vals hM hv => by
  obtain ⟨v, u, rfl, h1, h2⟩ := repl2 hv
  obtain ⟨v1, v2, v3, rfl, h3⟩ := au_in0 h1
  obtain ⟨u1, u2, u3, rfl, h4⟩ := au_in0 h2
  exact ret_d (same_any A B v1 v2 v3 u1 u2 u3 w h3 h4)
theorem eqA_d (l r : List Int) : DFun Try.prog 54 [intsD l, intsD r] (boolD (decide (l = r))) := fun M w vals hM hv => by
  obtain ⟨v, u, rfl, h1, h2⟩ := repl2 hv
  exact ret_d ((eq54 v u l r w ((ints_of_rep h1).mono (fun _ _ h => h.elim)) ((ints_of_rep h2).mono (fun _ _ h => h.elim))).mono fun e w' h => h.ret)
theorem eqR_d (l r : List Int) : DFun Try.prog 58 [intsD l, intsD r] (boolD (decide (l = r))) := fun M w vals hM hv => by
  obtain ⟨v, u, rfl, h1, h2⟩ := repl2 hv
  exact ret_d ((eq58 v u l r w ((ints_of_rep h1).mono (fun _ _ h => h.elim)) ((ints_of_rep h2).mono (fun _ _ h => h.elim))).mono fun e w' h => h.ret)
end Go.Proofs.Ytdakoccbmeojhaa
