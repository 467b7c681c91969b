/- Contracts over data: the reference, Digits, Text. No condition. -/
import Derived.Test.YtgcmajgkcahbnaaDoorXSl
import Derived.Test.YtgcmajgkcahbnaaDoorYA
import Derived.Test.YtgcmajgkcahbnaaDoorYAR
import Derived.Test.YtgcmajgkcahbnaaDoorYBK

set_option linter.unusedSimpArgs false
set_option linter.unusedVariables false
set_option maxHeartbeats 4000000
set_option maxRecDepth 8000
namespace Go.Bs
open Go
theorem join_snoc (X : List (List UInt8)) (y sep : List UInt8) : Lib.join (X ++ [y]) sep = if X = [] then y else Lib.join X sep ++ sep ++ y := by
  cases X with
  | nil => rw [if_pos rfl, List.nil_append, Lib.join_one]
  | cons x r =>
    rw [if_neg (by simp), List.cons_append, Lib.join_cons, Lib.join_cons]
    unfold Lib.joinTail
    rw [List.map_append, List.flatten_append]
    simp
def txL (l : List Int) (i : Nat) : List UInt8 := 123 :: Lib.join ((l.take i).map Lib.itoa) [32]
theorem txL_succ {l : List Int} {i : Nat} {x : Int} (h : l[i]? = some x) : txL l (i + 1) = if i = 0 then txL l i ++ Lib.itoa x else txL l i ++ [32] ++ Lib.itoa x := by
  unfold txL
  have hi := (List.getElem?_eq_some_iff.1 h).1
  rw [List.take_add_one, h, Option.toList_some, List.map_append, List.map_cons, List.map_nil, join_snoc]
  by_cases h0 : i = 0
  · subst h0
    rw [if_pos rfl, if_pos (by simp)]
    rfl
  · rw [if_neg h0, if_neg (by
      intro e
      have := congrArg List.length e
      rw [List.length_map, List.length_take, List.length_nil] at this
      omega)]
    rfl
theorem txL_len {l : List Int} (hl : l.length ≤ 1024) (hr : ∀ z ∈ l, 0 ≤ z ∧ z < 1024) (i : Nat) : (txL l i).length ≤ 10000 := by
  unfold txL
  have h := join_len ((l.take i).map Lib.itoa) (fun x hx => by
    obtain ⟨z, hz, rfl⟩ := List.mem_map.1 hx
    obtain ⟨h0, h1⟩ := hr z (List.mem_of_mem_take hz)
    exact itoa_len h0 h1)
  rw [List.length_map, List.length_take] at h
  rw [List.length_cons]
  omega
end Go.Bs
namespace Go.Proofs.YtgcmajgkcahbnaaDoor
open Go Go.RowKit Go.PP Go.Dm Go.Bs
theorem byte_D {n : Nat} (h : n < 10) : [D.flat (.int .u8 (48 + (n : Int)))] = bD [UInt8.ofNat (48 + n)] := by
  unfold bD
  rw [List.map_cons, List.map_nil, UInt8.toNat_ofNat', Nat.mod_eq_of_lt (by omega), show ((48 + n : Nat) : Int) = 48 + (n : Int) by omega]
theorem digits_d : ∀ u : Nat, u < 100000 → DFun Tryd.prog 68 [.flat (.int .i64 u)] (strD (Lib.decDigits u)) := by
  intro u
  induction u using Nat.strongRecOn with
  | _ u ih =>
    intro hu
    by_cases h : u < 10
    · rw [Lib.decDigits, dif_pos h]
      have hb := byte_D h
      refine DFun.enterA Tryd.func68 Tryd.ntmps68 ?_
      refine DW.walk ?_
      exact ⟨.inr rfl, ResOk.one [] rfl rfl trivial (Vw.pers rfl)⟩
    · have hrec := ih (u / 10) (by omega) (by omega)
      have hl : (Lib.decDigits (u / 10)).length ≤ 5 := dig_len 4 _ (by omega)
      have hb := byte_D (n := u % 10) (by omega)
      have hr : (u : Int).tmod 10 = ((u % 10 : Nat) : Int) := by rw [Int.tmod_eq_emod_of_nonneg (by omega)]; omega
      have hq : IntKind.i64.wrap ((u : Int).tdiv 10) = ((u / 10 : Nat) : Int) := by
        rw [Int.tdiv_eq_ediv_of_nonneg (by omega)]
        exact (w64 (by omega) (by omega)).trans (by omega)
      have hm : u % 10 < 10 := by omega
      rw [Lib.decDigits, dif_neg h]
      generalize Lib.decDigits (u / 10) = A at *
      refine DFun.enterA Tryd.func68 Tryd.ntmps68 ?_
      refine DW.walk ?_
      exact ⟨.inr rfl, ResOk.one [] rfl rfl trivial (Vw.pers rfl)⟩
theorem rtext_d (l : List Int) (hl : l.length ≤ 1024) (hr : ∀ z ∈ l, 0 ≤ z ∧ z < 1024) : DFun Tryd.prog 51 [intsD l] (strD (123 :: (Lib.join (l.map Lib.itoa) [32] ++ [125]))) := by
  refine DFun.enterA Tryd.func51 Tryd.ntmps51 ?_
  refine DW.walk ?_
  refine DW.loopA (fun i : Nat => ⟨[(0, intsD l), (3, strD (txL l i)), (4, .flat (.int .i64 i))], []⟩) (fun i => i ≤ l.length) (fun i => l.length - i) 0 ?_ (by omega)
  intro i hi
  have hL := txL_len hl hr i
  rcases Nat.lt_or_ge i l.length with hlt | hge
  · obtain ⟨x, hx⟩ : ∃ x, l[i]? = some x := ⟨l[i], by simp⟩
    have h0 := part_map (f := fun x => D.flat (.int .i64 x)) hx
    have hxr := hr x (List.mem_of_getElem? hx)
    have hY := txL_succ hx
    have hd := digits_d x.toNat (by omega)
    rw [Int.toNat_of_nonneg hxr.1, show Lib.decDigits x.toNat = Lib.itoa x by unfold Lib.itoa; rw [if_neg (by omega)]] at hd
    have hil := itoa_len hxr.1 hxr.2
    generalize hA : txL l i = A at *
    generalize hB : txL l (i + 1) = B at *
    generalize Lib.itoa x = y at *
    clear hr
    by_cases hz : i = 0
    · rw [if_pos hz] at hY
      refine DW.walk ?_
      refine ⟨i + 1, by omega, by omega, ?_⟩
      rw [hB, hY]
      exact Sub.auto
    · rw [if_neg hz] at hY
      refine DW.walk ?_
      refine ⟨i + 1, by omega, by omega, ?_⟩
      rw [hB, hY]
      exact Sub.auto
  · have hje : i = l.length := by omega
    subst hje
    have e : (123 :: (Lib.join (l.map Lib.itoa) [32] ++ [125]) : List UInt8) = txL l l.length ++ [125] := by unfold txL; rw [List.take_length]; rfl
    rw [e]
    generalize txL l l.length = A at *
    clear e hr
    refine DW.walk ?_
    exact ⟨.inr rfl, ResOk.one [] rfl rfl trivial (Vw.pers rfl)⟩
end Go.Proofs.YtgcmajgkcahbnaaDoor
