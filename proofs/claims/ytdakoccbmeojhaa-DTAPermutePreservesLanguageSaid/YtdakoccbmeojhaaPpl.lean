/- palmettelaw33.DTAPermutePreservesLanguage returns true for every input and leaves what it was given as it was. No condition. -/
import Derived.Test.YtdakoccbmeojhaaRows
import Derived.Test.YtdakoccbmeojhaaNr
import Derived.Test.YtdakoccbmeojhaaNo
import Derived.SizedLaws
import Derived.WalkKit
import Derived.ProofKit
import Derived.OpenShut
import Derived.ShutString
import Derived.ChangeOld
import Derived.Below
set_option linter.unusedSimpArgs false
namespace Go.Proofs.Ytdakoccbmeojhaa.dTAPermutePreservesLanguage
open Go.ChangeShapes Go.WideShapes Go.ChangeAt Go.RowKit
open Go.ChangeMaps (open_string shut_string)
open Go.PP Go.Dm
set_option linter.unusedVariables false

theorem own : ownKnob Try.prog.godebug = none := by kernel_rfl
theorem laidOut : laidOutB Try.prog = true := by kernel_rfl

set_option maxRecDepth 100000 in
theorem lifted (os : Os) (started : os.Started) (H : Type) (enc : TypeId × Value → H) :
    ReturnsInHanded {} Try.checked os 12 .any (Rows.dTAPermutePreservesLanguageSpec.pre6 enc Try.prog Try.f12 Rows.dTAPermutePreservesLanguageRow.domain false) (Rows.dTAPermutePreservesLanguageSpec.post enc Try.prog Try.f12 false true false false) := by
  refine returnsInHanded_of_change_sized (C := Try.checked) own started (by kernel_rfl) Try.func12
    (ChangeSpec.witness6 (enc := enc) (C := Try.checked) false ⟨#[], #[.agg #[.slice none 0 0, .slice none 0 0, .slice none 0 0], .slice none 0 0, .agg #[.int .i64 0, .slice none 0 0]], []⟩ 8 (by kernel_rfl) (by kernel_rfl) (by kernel_rfl) (by kernel_rfl)) ?_
  intro W base args ds gs before hval0 hW hcnd hsz0 _
  have hsz : (DataW.weightsEach Try.prog (Try.f12.params.toList ++ Rows.dTAPermutePreservesLanguageSpec.plain.varTypes Try.prog) (ds ++ gs)).all (· ≤ reachBytes) = true := hsz0
  have hval : ∀ (j : Nat) t v, Try.f12.params[j]? = some t → args[j]? = some v → Value.okWide Try.prog W .any base t v := hval0
  have hW' := hW
  obtain ⟨p, q, hA0, hV, rfl, hfz, hnd⟩ := hW
  have hA : DataW.TrodAll enc Try.prog W 0 (fun _ => true) true Try.f12.params.toList args.toList ds p := hA0
  rw [Try.params12] at hA hval hsz
  obtain ⟨v0, vs0, d0, ds0, p0, q0, hargs, rfl, rfl, h0, r0⟩ := trodAll_cons hA
  obtain ⟨v1, vs1, d1, ds1, p1, q1, rfl, rfl, rfl, h1, r1⟩ := trodAll_cons r0
  obtain ⟨v2, vs2, d2, ds2, p2, q2, rfl, rfl, rfl, h2, r2⟩ := trodAll_cons r1
  obtain ⟨rfl, rfl, rfl⟩ := trodAll_nil r2
  obtain rfl : args = #[v0, v1, v2] := by cases args; simp_all
  obtain ⟨rfl, rfl⟩ := trodVars_none hV
  have k0 := h0
  have lt0 : ∀ x ∈ p0, x.block < W.heap.size := by obtain ⟨m, hm⟩ := k0; exact DataW.trod_lt m _ _ _ hm
  obtain ⟨c0, rfl, -⟩ := okWide_struct Try.underlying26 (hval 0 26 v0 rfl rfl)
  obtain ⟨va0, vb0, vc0, A0, rfl, hR0⟩ : ∃ va vb vc A, c0 = #[va, vb, vc] ∧ Rep (fun _ => False) W none (auD A) (.agg #[va, vb, vc]) := by
    obtain ⟨fuel, hf⟩ := h0
    obtain ⟨va, vb, vc, A, hv, q⟩ := open_autD hf
    exact ⟨va, vb, vc, A, Array.toList_inj.1 hv, q⟩
  have k1 := h1
  have lt1 : ∀ x ∈ p1, x.block < W.heap.size := by obtain ⟨m, hm⟩ := k1; exact DataW.trod_lt m _ _ _ hm
  obtain ⟨a1, len1, cap1, rfl⟩ := okWide_slice Try.underlying22 (hval 1 22 v1 rfl rfl)
  obtain ⟨z1, hR1⟩ : ∃ zs, Rep (fun _ => False) W none (intsD zs) (.slice a1 len1 cap1) := by
    obtain ⟨fuel, hf⟩ := h1
    obtain ⟨v, zs, hv, q⟩ := open_intsD Try.underlying22 hf
    simp [Value.cells] at hv
    subst hv
    exact ⟨zs, q⟩
  have k2 := h2
  have lt2 : ∀ x ∈ p2, x.block < W.heap.size := by obtain ⟨m, hm⟩ := k2; exact DataW.trod_lt m _ _ _ hm
  obtain ⟨c2, rfl, -⟩ := okWide_struct Try.underlying29 (hval 2 29 v2 rfl rfl)
  obtain ⟨va2, vb2, t2, rfl, hC2, hS2⟩ : ∃ va vb t, c2 = #[va, vb] ∧ RepL (fun _ => False) W none (treeC t) [va, vb] ∧ TSm t := by
    obtain ⟨fuel, hf⟩ := h2
    obtain ⟨va, vb, t, hv, q, q2⟩ := open_treeD fuel hf (fun n hn => by
      have := List.all_eq_true.1 hsz n (DataW.weights_mem_each (j := 2) (t := 29) (d := d2) rfl rfl n hn)
      simpa using this)
    exact ⟨va, vb, t, Array.toList_inj.1 hv, q, q2⟩
  have hR2 : Rep (fun _ => False) W none (treeD t2) (.agg #[va2, vb2]) := by
    unfold treeD
    simp only [Rep]
    exact ⟨_, rfl, hC2⟩
  clear hA0 hval0
  refine (law_ret (vals := [.agg #[va0, vb0, vc0], .slice a1 len1 cap1, .agg #[va2, vb2]]) (law12_d A0 z1 t2 hS2) (by simp only [RepL]; exact ⟨_, _, rfl, hR0, ⟨_, _, rfl, hR1, ⟨_, _, rfl, hR2, rfl⟩⟩⟩)).mono fun e W' ⟨he, bel0⟩ => ?_
  subst he
  have bel := bel0.below
  exact ⟨_, rfl, _, _, _, [], _, [], hW', trodAll_mk1 (shut_bool Try.underlying4 _), (trodAll_cons_mk (Below.trod laidOut (by kernel_rfl) (of_decide_eq_true (by kernel_rfl)) k0 bel lt0) (trodAll_cons_mk (Below.trod laidOut (by kernel_rfl) (of_decide_eq_true (by kernel_rfl)) k1 bel lt1) (trodAll_cons_mk (Below.trod laidOut (by kernel_rfl) (of_decide_eq_true (by kernel_rfl)) k2 bel lt2) trodAll_mk0))), rfl, bel.frame _, fun h => by cases h⟩

theorem over : Rows.dTAPermutePreservesLanguageRow.holds Try.pinned (OpenSpec.ofChange Rows.dTAPermutePreservesLanguageSpec) :=
  OpenClaim.holds_of_wide 12 Try.f12 rfl rfl rfl rfl rfl rfl rfl ⟨rfl, rfl, rfl, rfl, rfl⟩ rfl rfl rfl rfl rfl (by kernel_rfl) Try.func12 (by kernel_rfl)
    (of_decide_eq_true (by kernel_rfl)) (by unfold Func.isWrapper; first | (rw [if_pos (by decide +kernel)]; kernel_rfl) | (rw [if_neg (by decide +kernel)]; exact ⟨rfl, rfl⟩))
    (fun os started H enc _ => lifted os started H enc)

/-- The statement. -/
theorem proved : Rows.DTAPermutePreservesLanguageSaid := over
#print axioms proved
end Go.Proofs.Ytdakoccbmeojhaa.dTAPermutePreservesLanguage
