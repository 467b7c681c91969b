/- palmettelaw35.MinimizeSmallestTrees returns true for every input and leaves what it was given as it was. No condition. -/
import Derived.Test.YtichhfbkhnimmaaRows
import Derived.Test.YtichhfbkhnimmaaVL10
import Derived.ProofKit
import Derived.ShutString
import Derived.ChangeOld
import Derived.Below
import Derived.LaidMore
import Derived.Lay
import Derived.SevenTiedAt
import Derived.Stop.Joined
set_option linter.unusedSimpArgs false
namespace Go.Proofs.Ytichhfbkhnimmaa.minimizeSmallestTrees
open Go.ChangeShapes Go.WideShapes Go.ChangeAt Go.RowKit
open Go.ChangeMaps (open_string shut_string)
open Go.PP Go.Dm Go.Rt Go.Mn
set_option linter.unusedVariables false
theorem own:ownKnob Try.prog.godebug=none:=by kernel_rfl
theorem xk_:laidOutB Try.prog=true:=by kernel_rfl
set_option maxRecDepth 100000 in
theorem abf (os:Os) (started:os.Started) (H:Type) (enc:TypeId × Value→H):
  ReturnsInHanded {} Try.checked os 10 .any (Rows.minimizeSmallestTreesSpec.pre6 enc Try.prog Try.f10 Rows.minimizeSmallestTreesRow.domain false) (Rows.minimizeSmallestTreesSpec.post enc Try.prog Try.f10 false true false false):=by
 refine returnsInHanded_of_change_sized (C:=Try.checked) own started (by kernel_rfl) Try.func10
  (ChangeSpec.witness6 (enc:=enc) (C:=Try.checked) false ⟨#[],#[.agg #[.slice none 0 0,.slice none 0 0,.slice none 0 0]],[]⟩ 8 (by kernel_rfl) (by kernel_rfl) (by kernel_rfl) (by kernel_rfl)) ?_
 intro W base args ds gs before hval0 hW hcnd hsz0 _
 have hsz:(DataW.weightsEach Try.prog (Try.f10.params.toList++Rows.minimizeSmallestTreesSpec.plain.varTypes Try.prog) (ds++gs)).all (· ≤reachBytes)=true:=hsz0
 have hval:∀ (j:Nat) t v,Try.f10.params[j]?=some t→args[j]?=some v→Value.okWide Try.prog W .any base t v:=hval0
 have hW':=hW
 obtain⟨p,q,hA0,hV,rfl,hfz,hnd⟩:=hW
 have hA:DataW.TrodAll enc Try.prog W 0 (fun _=>true) true Try.f10.params.toList args.toList ds p:=hA0
 rw [Try.params10] at hA hval hsz
 obtain⟨v0,vs0,d0,ds0,p0,q0,hargs,rfl,rfl,h0,r0⟩:=trodAll_cons hA
 obtain⟨rfl,rfl,rfl⟩:=trodAll_nil r0
 obtain rfl:args= #[v0]:=by cases args;simp_all
 obtain⟨rfl,rfl⟩:=trodVars_none hV
 have hwt:∀ (j:Nat) (t:TypeId) (d:DataW H),[26][j]?=some t→[d0][j]?=some d→ ∀ m∈d.weights Try.prog t,m≤reachBytes:=fun j t d h1 h2 m hm=>by
  have:=List.all_eq_true.1 hsz m (DataW.weights_mem_each (j:=j) (t:=t) (d:=d) h1 h2 m hm)
  simpa using this
 have k0:=h0
 have lt0:∀ x∈p0,x.block<W.heap.size:=by obtain⟨m,hm⟩:=k0;exact DataW.trod_lt m _ _ _ hm
 obtain⟨c0,rfl, -⟩:=okWide_struct Try.underlying26 (hval 0 26 v0 rfl rfl)
 obtain⟨y0,hR0,o0⟩:=Opens.agg opAu h0 (hwt 0 26 d0 rfl rfl)
 clear hA0 hval0
 refine (yi_ (vals:=[.agg c0]) (rz_ y0) (fun p hp=>by cases hp) (by simp only [RepL];exact⟨_,_,rfl,hR0,rfl⟩)).mono fun e W' ⟨he,bel0⟩=>?_
 subst he
 have bel:=bel0.below
 exact⟨_,rfl,_,_,_,[],_,[],hW',trodAll_mk1 (shut_bool Try.underlying4 _),(trodAll_cons_mk (Below.trod xk_ (by kernel_rfl) (of_decide_eq_true (by kernel_rfl)) k0 bel lt0) trodAll_mk0),rfl,bel.frame _,fun h=>by cases h⟩
theorem over:Rows.minimizeSmallestTreesRow.holds Try.pinned (OpenSpec.ofChange Rows.minimizeSmallestTreesSpec):=
 OpenClaim.holds_of_wide 10 Try.f10 rfl rfl rfl rfl rfl rfl rfl ⟨rfl,rfl,rfl,rfl,rfl⟩ rfl rfl rfl rfl rfl (by kernel_rfl) Try.func10 (by kernel_rfl)
  (of_decide_eq_true (by kernel_rfl)) (by unfold Func.isWrapper;first|(rw [if_pos (by decide +kernel)];kernel_rfl)|(rw [if_neg (by decide +kernel)];exact⟨rfl,rfl⟩))
  (fun os started H enc _=>abf os started H enc)
theorem proved:Rows.MinimizeSmallestTreesSaid:=over
#print axioms proved
end Go.Proofs.Ytichhfbkhnimmaa.minimizeSmallestTrees
