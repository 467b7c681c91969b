/- Contracts over data: the log's names; filtered logs. No condition. -/
import Derived.Test.YtjmljmappfhiaaaDoorYLn

set_option linter.unusedSimpArgs false
set_option linter.unusedVariables false
set_option maxHeartbeats 1000000
set_option maxRecDepth 8000
namespace Go.Proofs.YtjmljmappfhiaaaDoor
open Go Go.RowKit Go.PP Go.Dm

theorem names_d (l : List (Bs × Bs)) (hl : l.length ≤ 100000) : DFun Tryd.prog 27 [.ptr [entsD l] 0] (strsD (namesOf l)) := by
  have hc := entries_d l hl
  refine DFun.enterA Tryd.func27 Tryd.ntmps27 ?_
  refine DW.walk ?_
  refine DW.adopt 3 3 9 1 rfl rfl ?_
  refine DW.loopA (fun j : Nat => ⟨[(3, .own 3 (namesOf (l.take j)).length), (4, .mp 7), (9, entsD l), (10, .flat (.int .i64 l.length)), (11, .flat (.int .i64 j))], [(3, some (.row 9 1 (namesOf (l.take j)).length ((namesOf (l.take j)).map strD))), (7, some (.box (.keys ((namesOf (l.take j)).map strV) :: (namesOf (l.take j)).map fun _ => D.flat (.bool true)))), (6, none)]⟩) (fun j => j ≤ l.length) (fun j => l.length - j) 0 ?_ (by omega)
  intro j hj
  have hnl := names_len l j
  have hlk := lkM_const (D.flat (.bool true)) 
  rcases Nat.lt_or_ge j l.length with hlt | hge
  · obtain ⟨e, he⟩ : ∃ e, l[j]? = some e := ⟨l[j], by simp⟩
    have h0 := ent_part he
    have hf := names_take he
    have hlk := hlk e.1 (namesOf (l.take j))
    by_cases hp : e.1 ∈ namesOf (l.take j)
    · rw [if_pos hp] at hlk
      have hlk2 : (lkM (namesOf (l.take j)) ((namesOf (l.take j)).map fun _ => D.flat (.bool true)) e.1).getD (.flat (.bool false)) = .flat (.bool true) := by rw [hlk]; rfl
      rw [if_pos hp] at hf
      have hpe := strs_pers (namesOf (l.take j))
      refine DW.walk ?_
      refine ⟨j + 1, by omega, by omega, ?_⟩
      rw [hf]
      exact Sub.auto
    · rw [if_neg hp] at hlk
      have hlk2 : (lkM (namesOf (l.take j)) ((namesOf (l.take j)).map fun _ => D.flat (.bool true)) e.1).getD (.flat (.bool false)) = .flat (.bool false) := by rw [hlk]; rfl
      rw [if_neg hp] at hf
      have hrow : (namesOf (l.take j)).map strD ++ [strD e.1] = (namesOf (l.take (j + 1))).map strD := by rw [hf]; simp
      have hkeys : (namesOf (l.take j) ++ [e.1]).map strV = (namesOf (l.take (j + 1))).map strV := by rw [hf]
      have hvals : ((namesOf (l.take j)).map fun _ => D.flat (.bool true)) ++ [D.flat (.bool true)] = (namesOf (l.take (j + 1))).map fun _ => D.flat (.bool true) := by rw [hf]; simp
      have hlen : (namesOf (l.take j)).length + 1 = (namesOf (l.take (j + 1))).length := by rw [hf]; simp
      have hpe := strs_pers (namesOf (l.take (j + 1)))
      refine DW.walk ?_
      exact ⟨j + 1, by omega, by omega, Sub.auto⟩
  · have hje : j = l.length := by omega
    subst hje
    rw [List.take_length]
    refine DW.walk ?_
    exact ⟨.inr rfl, ResOk.one [(3, some (.row 9 1 _ _))] rfl rfl ⟨rfl, trivial⟩ (Vw.own (.head _) (VwL.pers (strs_pers _)))⟩
theorem names_n : DFun Tryd.prog 27 [.flat (.pointer none)] (strsD []) := by
  have hE : DFun Tryd.prog 19 [.flat (.pointer none)] (.flat (.slice none 0 0)) := by
    have hc := (some_nil 41 [] rfl).le (args' := [.flat (.pointer none), .flat (.func (.func 41) #[] #[])]) (LeL.cons (Le.refl _) (LeL.cons Le.fn LeL.nil)) (Le.refl _)
    refine DFun.enterA Tryd.func19 Tryd.ntmps19 ?_
    refine DW.walk ?_
    exact ⟨.inr rfl, ResOk.one [] rfl rfl trivial (Vw.pers rfl)⟩
  have hE := hE.le (LeL.refl _) (Le.nil false 2)
  refine DFun.enterA Tryd.func27 Tryd.ntmps27 ?_
  refine DW.walk ?_
  refine DW.loopA (fun j : Unit => ⟨[(3, .flat (.slice none 0 0)), (9, .sl false 2 0 []), (10, .flat (.int .i64 0)), (11, .flat (.int .i64 0))], []⟩) (fun j => True) (fun j => 0) () ?_ trivial
  intro j hj
  refine DW.walk ?_
  exact ⟨.inr rfl, ResOk.one [] rfl rfl trivial (Vw.p rfl (Le.nil _ _))⟩
theorem byName_d (l : List (Bs × Bs)) (s : Bs) (hl : l.length ≤ 100000) : DFun Tryd.prog 29 [.ptr [entsD l] 0, strD s] (entsD (l.filter fun e => decide (e.1 = s))) := by
  have hc := ents_fun (some_l 43 [.ptr [strD s] 0] (fun e => decide (e.1 = s)) (EntC.h (P := Tryd.prog)) rfl l hl (fun e _ => by_clo s e))
  refine DFun.enterA Tryd.func29 Tryd.ntmps29 ?_
  refine DW.walkTo 1 ?_
  refine DW.sub (s' := ⟨[(0, .ptr [entsD l] 0), (3, .ptr [strD s] 0), (4, .flat (.slice none 0 0))], []⟩) Sub.auto ?_
  refine DW.walk ?_
  exact ⟨.inr rfl, ResOk.one [] rfl rfl trivial (Vw.pers rfl)⟩
theorem byName_n (s : Bs) : DFun Tryd.prog 29 [.flat (.pointer none), strD s] (.flat (.slice none 0 0)) := by
  have hc := some_nil 43 [.ptr [strD s] 0] rfl
  refine DFun.enterA Tryd.func29 Tryd.ntmps29 ?_
  refine DW.walkTo 1 ?_
  refine DW.sub (s' := ⟨[(0, .flat (.pointer none)), (3, .ptr [strD s] 0), (4, .flat (.slice none 0 0))], []⟩) Sub.auto ?_
  refine DW.walk ?_
  exact ⟨.inr rfl, ResOk.one [] rfl rfl trivial (Vw.pers rfl)⟩
def newLog (l : List (Bs × Bs)) : Sg := [(429496729600001, some (.box [.own 429496729600002 l.length])), (429496729600002, some (.row 29 2 l.length (entsC l)))]
theorem without_l (l : List (Bs × Bs)) (ns : List Bs) (hl : l.length ≤ 100000) (hn : ns.length ≤ 100000) : DLend Tryd.prog 30 [.ptr [entsD l] 0, strsD ns] [(429496729600001, none), (429496729600002, none)] (logB (l.filter fun e => !decide (e.1 ∈ ns))) (.ref 429496729600001 0) := by
  have hc := some_lb 44 [.ptr [strsD ns] 0] (fun e => !decide (e.1 ∈ ns)) (EntC.h (P := Tryd.prog)) rfl l hl (fun e _ => without_clo ns (by omega) e)
  have hpe := entsC_pers (l.filter fun e => !decide (e.1 ∈ ns))
  have hid : IdAt 11 429496729600001 := IdAt.of _ _
  unfold logB
  refine DLend.enterA Tryd.func30 Tryd.ntmps30 ?_
  refine DW.walkTo 3 ?_
  refine DW.sub (s' := ⟨[(0, .ptr [entsD l] 0), (3, .ptr [strsD ns] 0)], [(429496729600001, none), (429496729600002, none)]⟩) Sub.auto ?_
  refine DW.walk ?_
  exact ⟨.inr rfl, ResL.oneA⟩
theorem log_view (l : List (Bs × Bs)) : Vw (logB l) (.ref 429496729600001 0) (.ptr [entsD l] 0) :=
  Vw.ref (.head _) (VwL.cons (Vw.own (.tail _ (.head _)) (VwL.pers (entsC_pers l))) VwL.nil) (by intro h; cases h)
theorem without_d (l : List (Bs × Bs)) (ns : List Bs) (hl : l.length ≤ 100000) (hn : ns.length ≤ 100000) : DFun Tryd.prog 30 [.ptr [entsD l] 0, strsD ns] (.ptr [entsD (l.filter fun e => !decide (e.1 ∈ ns))] 0) :=
  (without_l l ns hl hn).toFun rfl ⟨by simp [logB, lkE], by simp [logB, lkE], trivial⟩ (log_view _)
theorem without_n (ns : List Bs) (hn : ns.length ≤ 100000) : DFun Tryd.prog 30 [.flat (.pointer none), strsD ns] (.flat (.pointer none)) := by
  refine DFun.enterA Tryd.func30 Tryd.ntmps30 ?_
  refine DW.walk ?_
  exact ⟨.inr rfl, ResOk.one [] rfl rfl trivial (Vw.pers rfl)⟩
theorem clone_l (l : List (Bs × Bs)) (hl : l.length ≤ 100000) : DLend Tryd.prog 33 [.ptr [entsD l] 0] [(429496729600001, none), (429496729600002, none)] (logB l) (.ref 429496729600001 0) := by
  have hc := without_l l [] hl (by simp)
  have hft : (l.filter fun e => !decide (e.1 ∈ ([] : List Bs))) = l := by simp
  rw [hft] at hc
  have hc := hc.le (args' := [.ptr [entsD l] 0, .flat (.slice none 0 0)]) (LeL.cons (Le.refl _) (LeL.cons (Le.nil _ _) LeL.nil))
  have hpe := entsC_pers l
  unfold logB at hc ⊢
  refine DLend.enterA Tryd.func33 Tryd.ntmps33 ?_
  refine DW.walk ?_
  exact ⟨.inr rfl, ResL.oneA⟩
theorem clone_n : DFun Tryd.prog 33 [.flat (.pointer none)] (.flat (.pointer none)) := by
  have hc := (without_n [] (by simp)).le (args' := [.flat (.pointer none), .flat (.slice none 0 0)]) (LeL.cons (Le.refl _) (LeL.cons (Le.nil _ _) LeL.nil)) (Le.refl _)
  refine DFun.enterA Tryd.func33 Tryd.ntmps33 ?_
  refine DW.walk ?_
  exact ⟨.inr rfl, ResOk.one [] rfl rfl trivial (Vw.pers rfl)⟩
end Go.Proofs.YtjmljmappfhiaaaDoor

set_option linter.unusedSimpArgs false
set_option linter.unusedVariables false
set_option maxHeartbeats 1000000
set_option maxRecDepth 8000
namespace Go.Proofs.YtjmljmappfhiaaaDoor
open Go Go.RowKit Go.PP Go.Dm

theorem new_l : DLend Tryd.prog 12 [] [(429496729600001, none)] [(429496729600001, some (.box [.flat (.slice none 0 0)]))] (.ref 429496729600001 0) := by
  have hid : IdAt 2 429496729600001 := IdAt.of _ _
  refine DLend.enterA Tryd.func12 Tryd.ntmps12 ?_
  refine DW.walk ?_
  exact ⟨.inr rfl, ResL.oneA⟩
theorem encW_a : encW ([97], []) = [97, 32, 48, 32, 50, 53, 50, 52, 99, 54, 100, 50, 10, 10] := by decide +kernel
theorem known_d : DFun Tryd.prog 16 [] (.flat (.bool true)) := by
  have hn := new_l
  have ha := append_ok [] (by decide) ([97], []) (by decide +kernel)
  rw [encW_a] at ha
  have hlen := len_d [([97], [])] (by decide)
  have hc0 := (checksum_d [] (by decide)).le (args' := [.flat (.slice none 0 0)]) (LeL.cons (Le.nil _ _) LeL.nil) (Le.refl _)
  have hc1 := checksum_d [97] (by decide)
  rw [show (sumB []).toNat = 2166136261 by decide +kernel] at hc0
  rw [show (sumB [97]).toNat = 3826002220 by decide +kernel] at hc1
  refine DFun.enterA Tryd.func16 Tryd.ntmps16 ?_
  refine DW.walkTo 4 ?_
  refine DW.adoptBox 429496729600001 0 429496729600002 29 2 rfl rfl rfl ?_
  unfold logB at ha
  have hcv : ((bD [97, 32, 48, 32, 50, 53, 50, 52, 99, 54, 100, 50, 10, 10]).take (4 * 1)) = bD [97, 32, 48, 32] := rfl
  refine DW.walk ?_
  exact ⟨.inr rfl, ResOk.one [] rfl rfl trivial (Vw.pers rfl)⟩
end Go.Proofs.YtjmljmappfhiaaaDoor
