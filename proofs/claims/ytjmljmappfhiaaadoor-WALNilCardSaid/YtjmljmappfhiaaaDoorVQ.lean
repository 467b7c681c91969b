/- The law of a nil log. No condition. -/
import Derived.Test.YtjmljmappfhiaaaDoorVN2
set_option linter.unusedSimpArgs false
set_option linter.unusedVariables false
set_option maxHeartbeats 1000000
set_option maxRecDepth 8000
namespace Go.Proofs.YtjmljmappfhiaaaDoor
open Go Go.RowKit Go.PP Go.Dm

theorem append_n (e : Bs × Bs) : DFun Tryd.prog 13 [.flat (.pointer none), entD e] (.tup [.flat (.slice none 0 0), .flat (.int .i64 1)]) := by
  obtain ⟨a, b⟩ := e
  refine DFun.enterA Tryd.func13 Tryd.ntmps13 ?_
  refine DW.walk ?_
  exact ⟨.inr rfl, ResOk.auto⟩
theorem entries_n : DFun Tryd.prog 19 [.flat (.pointer none)] (entsD []) := by
  have hc := (some_nil 41 [] rfl).le (args' := [.flat (.pointer none), .flat (.func (.func 41) #[] #[])]) (LeL.cons (Le.refl _) (LeL.cons Le.fn LeL.nil)) (Le.refl _)
  refine DFun.enterA Tryd.func19 Tryd.ntmps19 ?_
  refine DW.walk ?_
  exact ⟨.inr rfl, ResOk.one [] rfl rfl trivial (Vw.p rfl (Le.nil _ _))⟩
theorem bytesL_n : DFun Tryd.prog 20 [.flat (.pointer none)] (bytesD []) := by
  have hE := entries_n
  refine DFun.enterA Tryd.func20 Tryd.ntmps20 ?_
  refine DW.walk ?_
  refine DW.loopA (fun j : Unit => ⟨[(3, .flat (.slice none 0 0)), (7, .sl false 2 0 []), (8, .flat (.int .i64 0)), (9, .flat (.int .i64 0))], []⟩) (fun j => True) (fun j => 0) () ?_ trivial
  intro j hj
  refine DW.walk ?_
  exact ⟨.inr rfl, ResOk.one [] rfl rfl trivial (Vw.p rfl (Le.nil _ _))⟩
theorem len_n : DFun Tryd.prog 22 [.flat (.pointer none)] (.flat (.int .i64 0)) := by
  have hE := entries_n
  refine DFun.enterA Tryd.func22 Tryd.ntmps22 ?_
  refine DW.walk ?_
  exact ⟨.inr rfl, ResOk.one [] rfl rfl trivial (Vw.pers rfl)⟩
theorem equal_e : DFun Tryd.prog 32 [.flat (.pointer none), .ptr [.flat (.slice none 0 0)] 0] (.flat (.bool false)) := by
  refine DFun.enterA Tryd.func32 Tryd.ntmps32 ?_
  refine DW.walk ?_
  exact ⟨.inr rfl, ResOk.one [] rfl rfl trivial (Vw.pers rfl)⟩
theorem law6_d (e : Bs × Bs) (s : Bs) : DFun Tryd.prog 6 [entD e, strD s] (.flat (.bool true)) := by
  have h13 := append_n e
  have h16 := known_d
  have h20 := bytesL_n
  have h19 := entries_n
  have h29 := byName_n s
  have h27 := names_n
  have h22 := len_n
  have h30 := without_n [s] (by simp)
  have h33 := clone_n
  have h32 := equal_nn
  have h12 := new_d
  have h32e := equal_e
  obtain ⟨a, b⟩ := e
  refine DFun.enterA Tryd.func6 Tryd.ntmps6 ?_
  refine DW.walk ?_
  exact ⟨.inr rfl, ResOk.one [] rfl rfl trivial (Vw.pers rfl)⟩
end Go.Proofs.YtjmljmappfhiaaaDoor
