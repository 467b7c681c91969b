/- Pairs of states as keys, ways as data. No condition. -/
import Derived.Test.YtichhfbkhnimmaaYKB
import Derived.Test.YtichhfbkhnimmaaYMJ
import Derived.Test.YtichhfbkhnimmaaYE2
import Derived.Test.YtichhfbkhnimmaaYD8
import Derived.Test.YtichhfbkhnimmaaYFO3
import Derived.Test.YtichhfbkhnimmaaXQu
import Derived.Test.YtichhfbkhnimmaaYE3
import Derived.Test.YtichhfbkhnimmaaYD5

set_option linter.unusedSimpArgs false
set_option linter.unusedVariables false
set_option maxHeartbeats 4000000
set_option maxRecDepth 8000
namespace Go.Proofs.Ytichhfbkhnimmaa
open Go Go.RowKit Go.PP Go.Dm Go.Rt Go.Mn
theorem key_way {x y : Int} (hx0 : -1000000000 ≤ x) (hx1 : x ≤ 1000000000) (hy0 : -1000000000 ≤ y) (hy1 : y ≤ 1000000000) : ∃ l, keyOf Try.prog 101 (kvP x y) = some l := by
  have hF : fieldsOf (Try.prog.underlying 101) = some ([(3, 0), (3, 1)], true) := by kernel_rfl
  have hc : Try.prog.cellsOf 101 = 2 := by kernel_rfl
  have hc2 : Try.prog.cellsOf 3 = 1 := by kernel_rfl
  have hu2 : Try.prog.underlying 3 = some (.int .i64) := by kernel_rfl
  have hk : Try.prog.keyType 101 = true := by kernel_rfl
  have hx := i64_wf hx0 hx1
  have hy := i64_wf hy0 hy1
  obtain ⟨n, hn⟩ := types_size
  have hu : ∃ fs, Try.prog.underlying 101 = some (.struct fs) ∧ fs.toList.map (fun f => (f.type, f.offset)) = [(3, 0), (3, 1)] ∧ fs.all (·.name != "_") = true := by
    generalize Try.prog.underlying 101 = u at hF
    unfold fieldsOf at hF
    split at hF
    · rename_i fs
      simp only [Option.some.injEq, Prod.mk.injEq] at hF
      exact ⟨fs, rfl, hF.1, hF.2⟩
    · cases hF
  obtain ⟨fs, hu, hf, hall⟩ := hu
  obtain ⟨f0, f1, hfs, e0, e1, e2, e3⟩ : ∃ f0 f1, fs.toList = [f0, f1] ∧ f0.type = 3 ∧ f0.offset = 0 ∧ f1.type = 3 ∧ f1.offset = 1 := by
    generalize fs.toList = q at hf
    cases q with
    | nil => simp at hf
    | cons f0 r =>
      cases r with
      | nil => simp at hf
      | cons f1 r2 =>
        cases r2 with
        | nil =>
          simp only [List.map_cons, List.map_nil, List.cons.injEq, Prod.mk.injEq, and_true] at hf
          exact ⟨f0, f1, rfl, hf.1.1, hf.1.2, hf.2.1, hf.2.2⟩
        | cons f2 r3 => simp at hf
  have hl : Try.prog.keyLits (n + 2) 101 [Value.int .i64 x, Value.int .i64 y] = some [.int .i64 x, .int .i64 y] := by
    have hi : ∀ z : Int, (Lit.int .i64 z).wf = true → Try.prog.keyLits (n + 1) 3 [Value.int .i64 z] = some [.int .i64 z] := fun z hz => by
      unfold Program.keyLits
      simp only [hu2, hz, and_self, if_true]
    rw [Program.keyLits.eq_def]
    simp only [hu, hc, List.length_cons, List.length_nil, hall, and_self, if_true, hfs]
    simp [e0, e1, e2, e3, hc2, hi x hx, hi y hy]
  refine ⟨.string (keyBytes [.int .i64 x, .int .i64 y]), ?_⟩
  unfold keyOf
  rw [hu]
  simp only [hk, hn, kvP, Value.formed, hu, hc, Value.cells, Bool.true_and, List.size_toArray, List.length_cons, List.length_nil, hl, decide_true, beq_self_eq_true, if_true, Option.map_some]
theorem keyed_way : Maps.Keyed Try.prog 101 := Maps.Keyed.of_law (deep_law_laid (by kernel_rfl) (m := 2) (by decide) (by decide +kernel) (by kernel_rfl) (by kernel_rfl))
def ksW (W : List Go.Mn.Way) : List Value := W.map fun w => kvP w.p w.q
def dsW (W : List Go.Mn.Way) : List D := W.map fun _ => D.flat (.bool true)
def wayC (A : Au) (w : Go.Mn.Way) : List D := [.flat (.int .i64 w.p), .flat (.int .i64 w.q), .sl false 3 w.l.length (spC (wordS A w.l))]
def waysC (A : Au) (W : List Go.Mn.Way) : List D := W.flatMap (wayC A)
theorem waysC_pers (A : Au) (W : List Go.Mn.Way) : persL (waysC A W) = true := persL_flat (fun w => by simp [wayC, persL, pers, spC_pers]) W
theorem waysC_snoc (A : Au) (W : List Go.Mn.Way) (w : Go.Mn.Way) : waysC A (W ++ [w]) = waysC A W ++ wayC A w := by simp [waysC]
theorem waysC_len (A : Au) : ∀ W : List Go.Mn.Way, (waysC A W).length = W.length * 3
  | [] => rfl
  | w :: W => by
    have := waysC_len A W
    unfold waysC at *
    rw [List.flatMap_cons, List.length_append, this, List.length_cons]
    simp only [wayC, List.length_cons, List.length_nil]
    omega
theorem waysC_drop (A : Au) (w : Go.Mn.Way) (W : List Go.Mn.Way) : (waysC A (w :: W)).drop (1 * 3) = waysC A W := by
  unfold waysC
  rw [List.flatMap_cons]
  rfl
theorem waysC_get (A : Au) (w : Go.Mn.Way) (W : List Go.Mn.Way) : partD true 3 (0 * 3) (waysC A (w :: W)) = some (.agg (wayC A w)) := by
  unfold partD
  rw [if_pos rfl, if_pos (by rw [waysC_len, List.length_cons]; omega)]
  unfold waysC
  rw [List.flatMap_cons]
  rfl
structure WOk (A : Au) (W : List Go.Mn.Way) : Prop where
  nd : (W.map Go.Mn.Way.pr).Nodup
  rng : ∀ w ∈ W, InA A w.p ∧ InA A w.q
theorem ksW_ok {A : Au} (hok : AuOk A) {W : List Go.Mn.Way} (h : WOk A W) : KeysOk Try.prog 101 (ksW W) := by
  refine ⟨keyed_way, fun v hv => ?_, ?_⟩
  · obtain ⟨w, hw, rfl⟩ := List.mem_map.1 hv
    obtain ⟨⟨a, b⟩, c, d⟩ := h.rng w hw
    have := hok.hi
    exact key_way (by omega) (by omega) (by omega) (by omega)
  · have h1 := h.nd
    unfold ksW
    rw [List.nodup_iff_pairwise_ne, List.pairwise_map] at h1 ⊢
    exact h1.imp fun hne e => hne (Prod.ext (kvP_inj e).1 (kvP_inj e).2)
theorem lookW_in {A : Au} (hok : AuOk A) {W : List Go.Mn.Way} (h : WOk A W) {x y : Int} (hm : (x, y) ∈ W.map Go.Mn.Way.pr) : ∃ i, LookT Try.prog 101 (ksW W) (kvP x y) i ∧ (dsW W)[i]? = some (D.flat (.bool true)) := by
  obtain ⟨w, hw, e⟩ := List.mem_map.1 hm
  obtain ⟨i, hi⟩ := List.getElem?_of_mem hw
  have e1 : w.p = x := congrArg Prod.fst e
  have e2 : w.q = y := congrArg Prod.snd e
  refine ⟨i, ⟨ksW_ok hok h, ?_⟩, ?_⟩
  · unfold ksW
    rw [List.getElem?_map, hi, ← e1, ← e2]; rfl
  · unfold dsW
    rw [List.getElem?_map, hi]; rfl
theorem lookW_no {A : Au} (hok : AuOk A) {W : List Go.Mn.Way} (h : WOk A W) {x y : Int} (hx : InA A x) (hy : InA A y) (hm : (x, y) ∉ W.map Go.Mn.Way.pr) : LookN Try.prog 101 (ksW W) (kvP x y) := by
  obtain ⟨a, b⟩ := hx
  obtain ⟨c, d⟩ := hy
  have := hok.hi
  refine ⟨ksW_ok hok h, key_way (by omega) (by omega) (by omega) (by omega), fun hk => hm ?_⟩
  obtain ⟨w, hw, e⟩ := List.mem_map.1 hk
  exact List.mem_map.2 ⟨w, hw, Prod.ext (kvP_inj e).1 (kvP_inj e).2⟩
theorem ksW_snoc (W : List Go.Mn.Way) (w : Go.Mn.Way) : ksW (W ++ [w]) = ksW W ++ [kvP w.p w.q] ∧ dsW (W ++ [w]) = dsW W ++ [D.flat (.bool true)] := by simp [ksW, dsW]
theorem cloneS_d (l : List D) (n : Nat) (hl : l.length = n * 3) (hp : persL l = true) (ho : oneL l = true) (hn : n ≤ 1000000) : DLend Try.prog 56 [.sl false 3 n l] [(777, none)] [(777, some (.row 50 3 n l))] (.own 777 n) := by
  have h5 := IdAt.of 5 777
  by_cases h0 : n = 0
  · subst h0
    obtain rfl : l = [] := List.eq_nil_of_length_eq_zero (by omega)
    refine DLend.enterA Try.func56 Try.ntmps56 ?_
    refine DW.adj ?_
    refine DW.flatten 0 rfl ?_
    intro a cap
    cases a with
    | none =>
      refine DW.walk ?_
      exact ⟨_, Sub.adoptA h5 2 50 3, .inr rfl, ResL.oneA⟩
    | some a =>
      refine DW.walk ?_
      exact ⟨_, Sub.refl _ _, .inr rfl, ResL.oneA⟩
  · have : 0 < n := by omega
    refine DLend.enterA Try.func56 Try.ntmps56 ?_
    refine DW.walk ?_
    exact ⟨.inr rfl, ResL.oneA⟩
end Go.Proofs.Ytichhfbkhnimmaa

set_option linter.unusedSimpArgs false
set_option linter.unusedVariables false
set_option maxHeartbeats 4000000
set_option maxRecDepth 8000
namespace Go.Proofs.Ytichhfbkhnimmaa
open Go Go.RowKit Go.PP Go.Dm Go.Rt Go.Mn
noncomputable abbrev code20 : Code := Try.f20.body.getD .skip
theorem di_eq {cc : Code} (hsel : selC [1, 1, 1, 1, 1, 0, 1, 2, 2, 1, 0, 2, 1, 1, 1, 2, 2] code20 = some cc) (LR LB LT SC WL QC DS : List D) (KS : List Value) (n nR nT m i wl L : Nat) (p q sy sa so x y : Int) (hm : m ≤ 5000000) (hi : i < m) (hwl : wl ≤ 1000000) (hL : L ≤ 1000000) (p1 : persL LR = true) (p2 : persL LB = true) (p3 : persL LT = true) (p4 : persL SC = true) (p5 : persL WL = true) (p6 : persL QC = true) (p7 : persL DS = true) (hs : partD true 3 (i * 3) SC = some (.agg [.flat (.int .i64 sy), .flat (.int .i64 sa), .flat (.int .i64 so)])) (hx : DFun Try.prog 55 [.agg [.flat (.int .i64 sy), .flat (.int .i64 sa), .flat (.int .i64 so)], .agg [.sl false 1 nR LR, .sl false 1 n LB, .sl false 1 nT LT], .flat (.int .i64 p)] (.flat (.int .i64 x))) (hy : DFun Try.prog 55 [.agg [.flat (.int .i64 sy), .flat (.int .i64 sa), .flat (.int .i64 so)], .agg [.sl false 1 nR LR, .sl false 1 n LB, .sl false 1 nT LT], .flat (.int .i64 q)] (.flat (.int .i64 y))) (he : x = y) :
    DW Try.prog 122 cc ⟨[(3, .ptr [.sl false 1 nR LR, .sl false 1 n LB, .sl false 1 nT LT] 0), (11, .sl false 3 m SC), (12, .mp 44), (13, .own 700 L), (14, .ref 14 0), (79, .sl false 3 m SC), (80, .flat (.int .i64 ((m : Nat) : Int))), (81, .flat (.int .i64 ((i : Nat) : Int)))], [(44, some (.box (.keys (KS) :: DS))), (700, some (.row 104 3 L QC)), (14, some (.box [.flat (.int .i64 p), .flat (.int .i64 q), .sl false 3 wl WL]))]⟩ (Nm 122 ⟨[(3, .ptr [.sl false 1 nR LR, .sl false 1 n LB, .sl false 1 nT LT] 0), (11, .sl false 3 m SC), (12, .mp 44), (13, .own 700 L), (14, .ref 14 0), (79, .sl false 3 m SC), (80, .flat (.int .i64 ((m : Nat) : Int))), (81, .flat (.int .i64 (((i + 1) : Nat) : Int)))], [(44, some (.box (.keys (KS) :: DS))), (700, some (.row 104 3 L QC)), (14, some (.box [.flat (.int .i64 p), .flat (.int .i64 q), .sl false 3 wl WL]))]⟩) := by
  refine DW.sel hsel (by rfl) ?_
  subst he
  refine DW.walk ?_
  exact Nm.mk Sub.auto
theorem di_in {cc : Code} (hsel : selC [1, 1, 1, 1, 1, 0, 1, 2, 2, 1, 0, 2, 1, 1, 1, 2, 2] code20 = some cc) (LR LB LT SC WL QC DS : List D) (KS : List Value) (n nR nT m i wl L : Nat) (p q sy sa so x y : Int) (hm : m ≤ 5000000) (hi : i < m) (hwl : wl ≤ 1000000) (hL : L ≤ 1000000) (p1 : persL LR = true) (p2 : persL LB = true) (p3 : persL LT = true) (p4 : persL SC = true) (p5 : persL WL = true) (p6 : persL QC = true) (p7 : persL DS = true) (hs : partD true 3 (i * 3) SC = some (.agg [.flat (.int .i64 sy), .flat (.int .i64 sa), .flat (.int .i64 so)])) (hx : DFun Try.prog 55 [.agg [.flat (.int .i64 sy), .flat (.int .i64 sa), .flat (.int .i64 so)], .agg [.sl false 1 nR LR, .sl false 1 n LB, .sl false 1 nT LT], .flat (.int .i64 p)] (.flat (.int .i64 x))) (hy : DFun Try.prog 55 [.agg [.flat (.int .i64 sy), .flat (.int .i64 sa), .flat (.int .i64 so)], .agg [.sl false 1 nR LR, .sl false 1 n LB, .sl false 1 nT LT], .flat (.int .i64 q)] (.flat (.int .i64 y))) (he : ¬ x = y) (k : Nat) (hT : LookT Try.prog 101 KS (kvP x y) k) (hk : DS[k]? = some (D.flat (.bool true))) :
    DW Try.prog 122 cc ⟨[(3, .ptr [.sl false 1 nR LR, .sl false 1 n LB, .sl false 1 nT LT] 0), (11, .sl false 3 m SC), (12, .mp 44), (13, .own 700 L), (14, .ref 14 0), (79, .sl false 3 m SC), (80, .flat (.int .i64 ((m : Nat) : Int))), (81, .flat (.int .i64 ((i : Nat) : Int)))], [(44, some (.box (.keys (KS) :: DS))), (700, some (.row 104 3 L QC)), (14, some (.box [.flat (.int .i64 p), .flat (.int .i64 q), .sl false 3 wl WL]))]⟩ (Nm 122 ⟨[(3, .ptr [.sl false 1 nR LR, .sl false 1 n LB, .sl false 1 nT LT] 0), (11, .sl false 3 m SC), (12, .mp 44), (13, .own 700 L), (14, .ref 14 0), (79, .sl false 3 m SC), (80, .flat (.int .i64 ((m : Nat) : Int))), (81, .flat (.int .i64 (((i + 1) : Nat) : Int)))], [(44, some (.box (.keys (KS) :: DS))), (700, some (.row 104 3 L QC)), (14, some (.box [.flat (.int .i64 p), .flat (.int .i64 q), .sl false 3 wl WL]))]⟩) := by
  refine DW.sel hsel (by rfl) ?_
  have hIs := isV_pair x y
  refine DW.walk ?_
  exact Nm.mk Sub.auto
theorem di_new {cc : Code} (hsel : selC [1, 1, 1, 1, 1, 0, 1, 2, 2, 1, 0, 2, 1, 1, 1, 2, 2] code20 = some cc) (LR LB LT SC WL QC DS : List D) (KS : List Value) (n nR nT m i wl L : Nat) (p q sy sa so x y : Int) (hm : m ≤ 5000000) (hi : i < m) (hwl : wl ≤ 1000000) (hL : L ≤ 1000000) (p1 : persL LR = true) (p2 : persL LB = true) (p3 : persL LT = true) (p4 : persL SC = true) (p5 : persL WL = true) (p6 : persL QC = true) (p7 : persL DS = true) (hs : partD true 3 (i * 3) SC = some (.agg [.flat (.int .i64 sy), .flat (.int .i64 sa), .flat (.int .i64 so)])) (hx : DFun Try.prog 55 [.agg [.flat (.int .i64 sy), .flat (.int .i64 sa), .flat (.int .i64 so)], .agg [.sl false 1 nR LR, .sl false 1 n LB, .sl false 1 nT LT], .flat (.int .i64 p)] (.flat (.int .i64 x))) (hy : DFun Try.prog 55 [.agg [.flat (.int .i64 sy), .flat (.int .i64 sa), .flat (.int .i64 so)], .agg [.sl false 1 nR LR, .sl false 1 n LB, .sl false 1 nT LT], .flat (.int .i64 q)] (.flat (.int .i64 y))) (he : ¬ x = y) (hN : LookN Try.prog 101 KS (kvP x y)) (KS2 : List Value) (DS2 QC2 : List D) (hK2 : KS ++ [kvP x y] = KS2) (hD2 : DS ++ [D.flat (.bool true)] = DS2) (hQ2 : QC ++ [.flat (.int .i64 x), .flat (.int .i64 y), .sl false 3 (wl + 1) (WL ++ [.flat (.int .i64 sy), .flat (.int .i64 sa), .flat (.int .i64 so)])] = QC2) (p8 : persL QC2 = true) (p9 : persL DS2 = true) (hc : DLend Try.prog 56 [.sl false 3 wl WL] [(777, none)] [(777, some (.row 50 3 wl WL))] (.own 777 wl)) (hWn : persL (WL ++ [.flat (.int .i64 sy), .flat (.int .i64 sa), .flat (.int .i64 so)]) = true) :
    DW Try.prog 122 cc ⟨[(3, .ptr [.sl false 1 nR LR, .sl false 1 n LB, .sl false 1 nT LT] 0), (11, .sl false 3 m SC), (12, .mp 44), (13, .own 700 L), (14, .ref 14 0), (79, .sl false 3 m SC), (80, .flat (.int .i64 ((m : Nat) : Int))), (81, .flat (.int .i64 ((i : Nat) : Int)))], [(44, some (.box (.keys (KS) :: DS))), (700, some (.row 104 3 L QC)), (14, some (.box [.flat (.int .i64 p), .flat (.int .i64 q), .sl false 3 wl WL]))]⟩ (Nm 122 ⟨[(3, .ptr [.sl false 1 nR LR, .sl false 1 n LB, .sl false 1 nT LT] 0), (11, .sl false 3 m SC), (12, .mp 44), (13, .own 700 (L + 1)), (14, .ref 14 0), (79, .sl false 3 m SC), (80, .flat (.int .i64 ((m : Nat) : Int))), (81, .flat (.int .i64 (((i + 1) : Nat) : Int)))], [(44, some (.box (.keys (KS2) :: DS2))), (700, some (.row 104 3 (L + 1) QC2)), (14, some (.box [.flat (.int .i64 p), .flat (.int .i64 q), .sl false 3 wl WL]))]⟩) := by
  refine DW.sel hsel (by rfl) ?_
  have hIs := isV_pair x y
  refine DW.walkTo 21 ?_
  rw [hK2, hD2]
  refine DW.regD rfl (by kernel_rfl) ?_
  refine DC.isOp ?_
  apply DC.is_move
  refine DC.k_move ?_
  refine DC.isOp ?_
  apply DC.is_load
  refine DC.k_load ?_
  refine DC.isOp ?_
  apply DC.is_fieldAddr
  refine DC.k_fieldAddr ?_
  refine DC.isOp ?_
  apply DC.is_load
  refine DC.k_load ?_
  refine DC.isOp ?_
  apply DC.is_callv
  refine DC.k_callv ?_
  refine DC.isOp ?_
  apply DC.is_load
  refine DC.k_load ?_
  refine DC.isOp ?_
  apply DC.is_buildSlice
  refine DC.k_buildSlice ?_
  refine DC.t (T.appendGive _ _ _ TySl.h TyIn.h rfl (by decide) (by decide) Le.full rfl (by omega) hWn) ⟨rfl, rfl, trivial⟩ ⟨rfl, trivial⟩ ?_
  refine DC.walk ?_
  rw [hQ2]
  exact Nm.mk Sub.auto
end Go.Proofs.Ytichhfbkhnimmaa

set_option linter.unusedSimpArgs false
set_option linter.unusedVariables false
set_option maxHeartbeats 4000000
set_option maxRecDepth 8000
namespace Go.Proofs.Ytichhfbkhnimmaa
open Go Go.RowKit Go.PP Go.Dm Go.Rt Go.Mn
theorem dsW_pers (W : List Go.Mn.Way) : persL (dsW W) = true := persL_map (fun _ => rfl) W
theorem oneL_app : ∀ {a b : List D}, oneL a = true → oneL b = true → oneL (a ++ b) = true
  | [], _, _, h => h
  | d :: a, b, h, k => by
    simp only [List.cons_append, oneL, Bool.and_eq_true] at h ⊢
    exact ⟨h.1, oneL_app h.2 k⟩
theorem spC_oneL : ∀ l : List Sp, oneL (spC l) = true
  | [] => rfl
  | s :: l => by rw [spC_cons]; exact oneL_app rfl (spC_oneL l)
theorem bfs_new {A : Au} {w : Go.Mn.Way} {W : List Go.Mn.Way} {i : Nat} (h : ¬ ((wayNext A w i).p = (wayNext A w i).q ∨ (wayNext A w i).pr ∈ W.map Go.Mn.Way.pr)) : bfsAdd A w W i = W ++ [wayNext A w i] := if_neg h
theorem bfs_old {A : Au} {w : Go.Mn.Way} {W : List Go.Mn.Way} {i : Nat} (h : (wayNext A w i).p = (wayNext A w i).q ∨ (wayNext A w i).pr ∈ W.map Go.Mn.Way.pr) : bfsAdd A w W i = W := if_pos h
def bfsTo (A : Au) (w : Go.Mn.Way) (W : List Go.Mn.Way) : Nat → List Go.Mn.Way
  | 0 => W
  | i + 1 => bfsAdd A w (bfsTo A w W i) i
theorem bfsTo_inv {A : Au} (hok : AuOk A) {p q : Int} {k : Nat} {W : List Go.Mn.Way} {w : Go.Mn.Way} (h : BInv A p q k 0 W) (hw : W[k]? = some w) : ∀ i, i ≤ (stepsA A).length → BInv A p q k i (bfsTo A w W i) ∧ (bfsTo A w W i)[k]? = some w
  | 0, _ => ⟨h, hw⟩
  | i + 1, hi => by
    obtain ⟨h1, h2⟩ := bfsTo_inv hok h hw i (by omega)
    exact h1.add hok h2 (by omega)
theorem bInv_wok {A : Au} {p q : Int} {k i : Nat} {W : List Go.Mn.Way} (h : BInv A p q k i W) : WOk A W := ⟨h.nd, fun w hw => ⟨(h.run w hw).2.2.2.1, (h.run w hw).2.2.2.2⟩⟩
theorem wordS_snoc (A : Au) (l : List Nat) (i : Nat) : spC (wordS A (l ++ [i])) = spC (wordS A l) ++ [.flat (.int .i64 (spAt A i).sym), .flat (.int .i64 (spAt A i).at_), .flat (.int .i64 (spAt A i).other)] := by
  unfold wordS
  rw [List.map_append, List.map_cons, List.map_nil, spC_snoc]
theorem spAt_get {A : Au} {i : Nat} (h : i < (stepsA A).length) : (stepsA A)[i]? = some (spAt A i) := by
  unfold spAt
  rw [List.getD_eq_getElem?_getD, List.getElem?_eq_getElem h]; rfl
theorem slt_len {u v : List Nat} (h : slt u v) : u.length ≤ v.length := by
  rcases h with h | h
  · omega
  · omega
theorem bInv_len {A : Au} {p q : Int} {k i : Nat} {W : List Go.Mn.Way} (h : BInv A p q k i W) : ∀ (j : Nat) (u : Go.Mn.Way), W[j]? = some u → u.l.length ≤ j := by
  intro j
  induction j using Nat.strongRecOn with
  | _ j ih =>
    intro u hu
    rcases h.par u (List.mem_of_getElem? hu) with e | ⟨j', u', x, h1, h2, _⟩
    · rw [e]; exact Nat.zero_le _
    · have hl : u.l.length = u'.l.length + 1 := by rw [h2]; simp
      rcases Nat.lt_trichotomy j' j with h3 | h3 | h3
      · have := ih j' h3 u' h1
        omega
      · subst h3
        rw [hu] at h1
        cases h1
        omega
      · have hp := h.srt
        rw [List.pairwise_iff_getElem] at hp
        obtain ⟨l1, e1⟩ := List.getElem?_eq_some_iff.1 hu
        obtain ⟨l2, e2⟩ := List.getElem?_eq_some_iff.1 h1
        have := slt_len (hp j j' l1 l2 h3)
        rw [e1, e2] at this
        omega
theorem di_row {cc cd : Code} (hsel : selC [1, 1, 1, 1, 1, 0, 1, 2, 2, 1, 0, 2, 1, 1, 0] code20 = some cc) (hsel2 : selC [1, 1, 1, 1, 1, 0, 1, 2, 2, 1, 0, 2, 1, 1, 1] code20 = some cd) (A : Au) (hok : AuOk A) (hst : (stepsA A).length ≤ 5000000) (p q : Int) (k : Nat) (W : List Go.Mn.Way) (w : Go.Mn.Way) (hB : BInv A p q k 0 W) (hw : W[k]? = some w) :
    DW Try.prog 122 cc ⟨[(3, .ptr [.sl false 1 A.ranks.length (A.ranks.map fun x => D.flat (.int .i64 x)), .sl false 1 A.final.length (A.final.map fun x => D.flat (.bool x)), .sl false 1 A.to.length (rowsL A.to)] 0), (11, .sl false 3 (stepsA A).length (spC (stepsA A))), (12, .mp 44), (13, .own 700 (W.length - k)), (14, .ref 14 0)], [(44, some (.box (.keys (ksW W) :: dsW W))), (700, some (.row 104 3 (W.length - k) (waysC A (W.drop k)))), (14, some (.box [.flat (.int .i64 w.p), .flat (.int .i64 w.q), .sl false 3 w.l.length (spC (wordS A w.l))]))]⟩ (Thn (fun s' => DW Try.prog 122 cd s' (Nm 122 ⟨[(3, .ptr [.sl false 1 A.ranks.length (A.ranks.map fun x => D.flat (.int .i64 x)), .sl false 1 A.final.length (A.final.map fun x => D.flat (.bool x)), .sl false 1 A.to.length (rowsL A.to)] 0), (11, .sl false 3 (stepsA A).length (spC (stepsA A))), (12, .mp 44), (13, .own 700 ((bfsTo A w W (stepsA A).length).length - k)), (14, .ref 14 0)], [(44, some (.box (.keys (ksW (bfsTo A w W (stepsA A).length)) :: dsW (bfsTo A w W (stepsA A).length)))), (700, some (.row 104 3 ((bfsTo A w W (stepsA A).length).length - k) (waysC A ((bfsTo A w W (stepsA A).length).drop k)))), (14, some (.box [.flat (.int .i64 w.p), .flat (.int .i64 w.q), .sl false 3 w.l.length (spC (wordS A w.l))]))]⟩)) (Nm 122 ⟨[(3, .ptr [.sl false 1 A.ranks.length (A.ranks.map fun x => D.flat (.int .i64 x)), .sl false 1 A.final.length (A.final.map fun x => D.flat (.bool x)), .sl false 1 A.to.length (rowsL A.to)] 0), (11, .sl false 3 (stepsA A).length (spC (stepsA A))), (12, .mp 44), (13, .own 700 ((bfsTo A w W (stepsA A).length).length - k)), (14, .ref 14 0)], [(44, some (.box (.keys (ksW (bfsTo A w W (stepsA A).length)) :: dsW (bfsTo A w W (stepsA A).length)))), (700, some (.row 104 3 ((bfsTo A w W (stepsA A).length).length - k) (waysC A ((bfsTo A w W (stepsA A).length).drop k)))), (14, some (.box [.flat (.int .i64 w.p), .flat (.int .i64 w.q), .sl false 3 w.l.length (spC (wordS A w.l))]))]⟩)) := by
  obtain rfl := Option.some.inj (hsel2.symm.trans (show selC [1, 1, 1, 1, 1, 0, 1, 2, 2, 1, 0, 2, 1, 1, 1] code20 = some _ by rfl))
  have hinv := bfsTo_inv hok hB hw
  have hwl := bInv_len hB k w hw
  have hkl := (List.getElem?_eq_some_iff.1 hw).1
  have hfw := hB.few
  have hnn : A.final.length * A.final.length ≤ 262144 := Nat.le_trans (Nat.mul_le_mul hok.hi hok.hi) (by decide)
  have q1 := pers_i A.ranks
  have q2 := pers_b A.final
  have q3 := pers_r A.to
  have q4 := spC_pers (stepsA A)
  have q5 := spC_pers (wordS A w.l)
  have hrun := hB.run w (List.mem_of_getElem? hw)
  have hgs : ∀ i, i < (stepsA A).length → partD true 3 (i * 3) (spC (stepsA A)) = some (.agg [.flat (.int .i64 (spAt A i).sym), .flat (.int .i64 (spAt A i).at_), .flat (.int .i64 (spAt A i).other)]) := fun i h => spC_get (spAt_get h)
  have hnx : ∀ i (x : Int), i < (stepsA A).length → InA A x → DFun Try.prog 55 [.agg [.flat (.int .i64 (spAt A i).sym), .flat (.int .i64 (spAt A i).at_), .flat (.int .i64 (spAt A i).other)], .agg [.sl false 1 A.ranks.length (A.ranks.map fun x => D.flat (.int .i64 x)), .sl false 1 A.final.length (A.final.map fun x => D.flat (.bool x)), .sl false 1 A.to.length (rowsL A.to)], .flat (.int .i64 x)] (.flat (.int .i64 (nextI A (spAt A i) x))) := fun i x h hx => next_d A hok (spAt A i) (mem_steps.1 (spAt_mem h)) x hx
  have hwc : (wordS A w.l).length = w.l.length := by simp [wordS]
  have hcl := cloneS_d (spC (wordS A w.l)) w.l.length (by rw [spC_len, hwc]) q5 (spC_oneL _) (by omega)
  have hq := fun V : List Go.Mn.Way => waysC_pers A V
  have hd := fun V : List Go.Mn.Way => dsW_pers V
  have e1 := fun (cc : Code) (h : selC [1, 1, 1, 1, 1, 0, 1, 2, 2, 1, 0, 2, 1, 1, 1, 2, 2] code20 = some cc) => di_eq h
  have e2 := fun (cc : Code) (h : selC [1, 1, 1, 1, 1, 0, 1, 2, 2, 1, 0, 2, 1, 1, 1, 2, 2] code20 = some cc) => di_in h
  have e3 := fun (cc : Code) (h : selC [1, 1, 1, 1, 1, 0, 1, 2, 2, 1, 0, 2, 1, 1, 1, 2, 2] code20 = some cc) => di_new h
  refine DW.sel hsel (by rfl) ?_
  have p0 := hq (W.drop k)
  have p1 := hd W
  generalize hSC : spC (stepsA A) = SC at *
  generalize hWL : spC (wordS A w.l) = WL at *
  generalize hLR : (A.ranks.map fun x => D.flat (.int .i64 x)) = LR at *
  generalize hLB : (A.final.map fun x => D.flat (.bool x)) = LB at *
  generalize hLT : rowsL A.to = LT at *
  generalize hQ0 : waysC A (W.drop k) = Q0 at *
  generalize hD0 : dsW W = D0 at *
  refine DW.walk ?_
  rw [← hQ0, ← hD0]
  refine DW.loopA (fun i : Nat => ⟨[(3, .ptr [.sl false 1 A.ranks.length LR, .sl false 1 A.final.length LB, .sl false 1 A.to.length LT] 0), (11, .sl false 3 (stepsA A).length SC), (12, .mp 44), (13, .own 700 ((bfsTo A w W i).length - k)), (14, .ref 14 0), (79, .sl false 3 (stepsA A).length SC), (80, .flat (.int .i64 (((stepsA A).length : Nat) : Int))), (81, .flat (.int .i64 ((i : Nat) : Int)))], [(44, some (.box (.keys (ksW (bfsTo A w W i)) :: dsW (bfsTo A w W i)))), (700, some (.row 104 3 ((bfsTo A w W i).length - k) (waysC A ((bfsTo A w W i).drop k)))), (14, some (.box [.flat (.int .i64 w.p), .flat (.int .i64 w.q), .sl false 3 w.l.length WL]))]⟩) (fun i => i ≤ (stepsA A).length) (fun i => (stepsA A).length - i) 0 ?_ (Nat.zero_le _) (by show Sub _ _ ⟨[(3, .ptr [.sl false 1 A.ranks.length LR, .sl false 1 A.final.length LB, .sl false 1 A.to.length LT] 0), (11, .sl false 3 (stepsA A).length SC), (12, .mp 44), (13, .own 700 (W.length - k)), (14, .ref 14 0), (79, .sl false 3 (stepsA A).length SC), (80, .flat (.int .i64 (((stepsA A).length : Nat) : Int))), (81, .flat (.int .i64 ((0 : Nat) : Int)))], [(44, some (.box (.keys (ksW W) :: dsW W))), (700, some (.row 104 3 (W.length - k) (waysC A (W.drop k)))), (14, some (.box [.flat (.int .i64 w.p), .flat (.int .i64 w.q), .sl false 3 w.l.length WL]))]⟩; rw [hQ0, hD0]; exact Sub.auto)
  intro i hi
  obtain ⟨hBi, hwi⟩ := hinv i hi
  have hfi := hBi.few
  have hki := (List.getElem?_eq_some_iff.1 hwi).1
  rcases Nat.lt_or_ge i (stepsA A).length with hlt | hge
  · obtain ⟨V, hV⟩ : ∃ V, bfsTo A w W i = V := ⟨_, rfl⟩
    have hnext : bfsTo A w W (i + 1) = bfsAdd A w V i := by rw [← hV]; rfl
    rw [hV] at hBi hwi hfi hki ⊢
    have hx := hnx i w.p hlt hrun.2.2.2.1
    have hy := hnx i w.q hlt hrun.2.2.2.2
    by_cases c1 : nextI A (spAt A i) w.p = nextI A (spAt A i) w.q
    · have hb : bfsAdd A w V i = V := bfs_old (.inl c1)
      refine (e1 _ (by rfl) LR LB LT SC WL (waysC A (V.drop k)) (dsW V) (ksW V) A.final.length A.ranks.length A.to.length (stepsA A).length i w.l.length (V.length - k) w.p w.q _ _ _ _ _ hst hlt (by omega) (by omega) q1 q2 q3 q4 q5 (hq _) (hd _) (hgs i hlt) hx hy c1).mono ?_
      rintro e s' ⟨rfl, hsub⟩
      exact ⟨i + 1, by omega, by omega, by rw [hnext, hb]; exact hsub⟩
    · by_cases c2 : (nextI A (spAt A i) w.p, nextI A (spAt A i) w.q) ∈ V.map Go.Mn.Way.pr
      · have hb : bfsAdd A w V i = V := bfs_old (.inr c2)
        obtain ⟨ix, l1, l2⟩ := lookW_in hok (bInv_wok hBi) c2
        refine (e2 _ (by rfl) LR LB LT SC WL (waysC A (V.drop k)) (dsW V) (ksW V) A.final.length A.ranks.length A.to.length (stepsA A).length i w.l.length (V.length - k) w.p w.q _ _ _ _ _ hst hlt (by omega) (by omega) q1 q2 q3 q4 q5 (hq _) (hd _) (hgs i hlt) hx hy c1 ix l1 l2).mono ?_
        rintro e s' ⟨rfl, hsub⟩
        exact ⟨i + 1, by omega, by omega, by rw [hnext, hb]; exact hsub⟩
      · have hb : bfsAdd A w V i = V ++ [wayNext A w i] := bfs_new (fun h => h.elim c1 c2)
        have hsp := mem_steps.1 (spAt_mem hlt)
        have hl := lookW_no hok (bInv_wok hBi) (next_in hok hsp hrun.2.2.2.1) (next_in hok hsp hrun.2.2.2.2) c2
        obtain ⟨k1, k2⟩ := ksW_snoc V (wayNext A w i)
        have hdr : (V ++ [wayNext A w i]).drop k = V.drop k ++ [wayNext A w i] := List.drop_append_of_le_length (by omega)
        have hll : (V ++ [wayNext A w i]).length - k = V.length - k + 1 := by simp; omega
        have hwn : waysC A (V.drop k ++ [wayNext A w i]) = waysC A (V.drop k) ++ [.flat (.int .i64 (nextI A (spAt A i) w.p)), .flat (.int .i64 (nextI A (spAt A i) w.q)), .sl false 3 (w.l.length + 1) (WL ++ [.flat (.int .i64 (spAt A i).sym), .flat (.int .i64 (spAt A i).at_), .flat (.int .i64 (spAt A i).other)])] := by
          rw [waysC_snoc]
          unfold wayC wayNext
          simp only [List.length_append, List.length_singleton, wordS_snoc, hWL]
        have q6 := hq (V.drop k ++ [wayNext A w i])
        have q7 := hd (V ++ [wayNext A w i])
        have q8 : persL (WL ++ [.flat (.int .i64 (spAt A i).sym), .flat (.int .i64 (spAt A i).at_), .flat (.int .i64 (spAt A i).other)]) = true := persL_append q5 rfl
        refine (e3 _ (by rfl) LR LB LT SC WL (waysC A (V.drop k)) (dsW V) (ksW V) A.final.length A.ranks.length A.to.length (stepsA A).length i w.l.length (V.length - k) w.p w.q _ _ _ _ _ hst hlt (by omega) (by omega) q1 q2 q3 q4 q5 (hq _) (hd _) (hgs i hlt) hx hy c1 hl _ _ _ k1.symm k2.symm hwn.symm q6 q7 hcl q8).mono ?_
        rintro e s' ⟨rfl, hsub⟩
        exact ⟨i + 1, by omega, by omega, by rw [hnext, hb, hdr, hll]; exact hsub⟩
  · obtain rfl : (stepsA A).length = i := by omega
    have p0 := hq ((bfsTo A w W (stepsA A).length).drop k)
    have p1 := hd (bfsTo A w W (stepsA A).length)
    generalize waysC A ((bfsTo A w W (stepsA A).length).drop k) = Q1 at *
    generalize dsW (bfsTo A w W (stepsA A).length) = D1 at *
    clear hnx e1 e2 e3 hgs hinv
    refine DW.walk ?_
    exact Nm.mk Sub.auto
end Go.Proofs.Ytichhfbkhnimmaa
