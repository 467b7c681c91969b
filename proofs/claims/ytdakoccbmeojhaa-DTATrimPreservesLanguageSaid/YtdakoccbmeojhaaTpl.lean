/- palmettelaw33.DTATrimPreservesLanguage returns true for every input and leaves what it was given as it was. No condition. -/
import Derived.Test.YtdakoccbmeojhaaRows
import Derived.Test.YtdakoccbmeojhaaNp
import Derived.Test.YtdakoccbmeojhaaNo
import Derived.SizedLaws
import Derived.WalkKit
import Derived.ProofKit
import Derived.OpenShut
import Derived.ShutString
import Derived.ChangeOld
import Derived.Below
set_option linter.unusedSimpArgs false
namespace Go.Proofs.Ytdakoccbmeojhaa.dTATrimPreservesLanguage
open Go.ChangeShapes Go.WideShapes Go.ChangeAt Go.RowKit
open Go.ChangeMaps (open_string shut_string)
open Go.PP Go.Dm
set_option linter.unusedVariables false

theorem own : ownKnob Try.prog.godebug = none := by kernel_rfl
theorem laidOut : laidOutB Try.prog = true := by kernel_rfl

set_option maxRecDepth 100000 in
theorem lifted (os : Os) (started : os.Started) (H : Type) (enc : TypeId × Value → H) :
    ReturnsInHanded {} Try.checked os 11 .any (Rows.dTATrimPreservesLanguageSpec.pre6 enc Try.prog Try.f11 Rows.dTATrimPreservesLanguageRow.domain false) (Rows.dTATrimPreservesLanguageSpec.post enc Try.prog Try.f11 false true false false) := by
  refine returnsInHanded_of_change_sized (C := Try.checked) own started (by kernel_rfl) Try.func11
    (ChangeSpec.witness6 (enc := enc) (C := Try.checked) false ⟨#[], #[.agg #[.slice none 0 0, .slice none 0 0, .slice none 0 0], .agg #[.int .i64 0, .slice none 0 0]], []⟩ 8 (by kernel_rfl) (by kernel_rfl) (by kernel_rfl) (by kernel_rfl)) ?_
  intro W base args ds gs before hval0 hW hcnd hsz0 _
  have hsz : (DataW.weightsEach Try.prog (Try.f11.params.toList ++ Rows.dTATrimPreservesLanguageSpec.plain.varTypes Try.prog) (ds ++ gs)).all (· ≤ reachBytes) = true := hsz0
  have hval : ∀ (j : Nat) t v, Try.f11.params[j]? = some t → args[j]? = some v → Value.okWide Try.prog W .any base t v := hval0
  have hW' := hW
  obtain ⟨p, q, hA0, hV, rfl, hfz, hnd⟩ := hW
  have hA : DataW.TrodAll enc Try.prog W 0 (fun _ => true) true Try.f11.params.toList args.toList ds p := hA0
  rw [Try.params11] at hA hval hsz
  obtain ⟨v0, vs0, d0, ds0, p0, q0, hargs, rfl, rfl, h0, r0⟩ := trodAll_cons hA
  obtain ⟨v1, vs1, d1, ds1, p1, q1, rfl, rfl, rfl, h1, r1⟩ := trodAll_cons r0
  obtain ⟨rfl, rfl, rfl⟩ := trodAll_nil r1
  obtain rfl : args = #[v0, v1] := by cases args; simp_all
  obtain ⟨rfl, rfl⟩ := trodVars_none hV
  have k0 := h0
  have lt0 : ∀ x ∈ p0, x.block < W.heap.size := by obtain ⟨m, hm⟩ := k0; exact DataW.trod_lt m _ _ _ hm
  obtain ⟨c0, rfl, -⟩ := okWide_struct Try.underlying26 (hval 0 26 v0 rfl rfl)
  obtain ⟨va0, vb0, vc0, A0, rfl, hR0⟩ : ∃ va vb vc A, c0 = #[va, vb, vc] ∧ Rep (fun _ => False) W none (auD A) (.agg #[va, vb, vc]) := by
    obtain ⟨fuel, hf⟩ := h0
    obtain ⟨va, vb, vc, A, hv, q⟩ := open_autD hf
    exact ⟨va, vb, vc, A, Array.toList_inj.1 hv, q⟩
  have k1 := h1
  have lt1 : ∀ x ∈ p1, x.block < W.heap.size := by obtain ⟨m, hm⟩ := k1; exact DataW.trod_lt m _ _ _ hm
  obtain ⟨c1, rfl, -⟩ := okWide_struct Try.underlying29 (hval 1 29 v1 rfl rfl)
  obtain ⟨va1, vb1, t1, rfl, hC1, hS1⟩ : ∃ va vb t, c1 = #[va, vb] ∧ RepL (fun _ => False) W none (treeC t) [va, vb] ∧ TSm t := by
    obtain ⟨fuel, hf⟩ := h1
    obtain ⟨va, vb, t, hv, q, q2⟩ := open_treeD fuel hf (fun n hn => by
      have := List.all_eq_true.1 hsz n (DataW.weights_mem_each (j := 1) (t := 29) (d := d1) rfl rfl n hn)
      simpa using this)
    exact ⟨va, vb, t, Array.toList_inj.1 hv, q, q2⟩
  have hR1 : Rep (fun _ => False) W none (treeD t1) (.agg #[va1, vb1]) := by
    unfold treeD
    simp only [Rep]
    exact ⟨_, rfl, hC1⟩
  clear hA0 hval0
  refine (law_ret (vals := [.agg #[va0, vb0, vc0], .agg #[va1, vb1]]) (law11_d A0 t1 hS1) (by simp only [RepL]; exact ⟨_, _, rfl, hR0, ⟨_, _, rfl, hR1, rfl⟩⟩)).mono fun e W' ⟨he, bel0⟩ => ?_
  subst he
  have bel := bel0.below
  exact ⟨_, rfl, _, _, _, [], _, [], hW', trodAll_mk1 (shut_bool Try.underlying4 _), (trodAll_cons_mk (Below.trod laidOut (by kernel_rfl) (of_decide_eq_true (by kernel_rfl)) k0 bel lt0) (trodAll_cons_mk (Below.trod laidOut (by kernel_rfl) (of_decide_eq_true (by kernel_rfl)) k1 bel lt1) trodAll_mk0)), rfl, bel.frame _, fun h => by cases h⟩

theorem over : Rows.dTATrimPreservesLanguageRow.holds Try.pinned (OpenSpec.ofChange Rows.dTATrimPreservesLanguageSpec) :=
  OpenClaim.holds_of_wide 11 Try.f11 rfl rfl rfl rfl rfl rfl rfl ⟨rfl, rfl, rfl, rfl, rfl⟩ rfl rfl rfl rfl rfl (by kernel_rfl) Try.func11 (by kernel_rfl)
    (of_decide_eq_true (by kernel_rfl)) (by unfold Func.isWrapper; first | (rw [if_pos (by decide +kernel)]; kernel_rfl) | (rw [if_neg (by decide +kernel)]; exact ⟨rfl, rfl⟩))
    (fun os started H enc _ => lifted os started H enc)

/-- The statement. -/
theorem proved : Rows.DTATrimPreservesLanguageSaid := over
#print axioms proved
end Go.Proofs.Ytdakoccbmeojhaa.dTATrimPreservesLanguage
