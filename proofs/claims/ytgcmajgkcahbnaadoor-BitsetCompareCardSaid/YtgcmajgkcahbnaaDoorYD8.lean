/- Contracts over data: the reference, lists of sets. No condition. -/
import Derived.Test.YtgcmajgkcahbnaaDoorXSl
import Derived.Test.YtgcmajgkcahbnaaDoorYB1
import Derived.Test.YtgcmajgkcahbnaaDoorYAT
import Derived.Test.YtgcmajgkcahbnaaDoorYD1
import Derived.Test.YtgcmajgkcahbnaaDoorYD6
import Derived.Test.YtgcmajgkcahbnaaDoorYC6

set_option linter.unusedSimpArgs false
set_option linter.unusedVariables false
set_option maxHeartbeats 4000000
set_option maxRecDepth 8000
namespace Go.Proofs.YtgcmajgkcahbnaaDoor
open Go Go.RowKit Go.PP Go.Dm Go.Bs
def setsC (l : List Nat) : List D := l.flatMap setC
abbrev setsD (l : List Nat) : D := .sl false 16 l.length (setsC l)
theorem setsC_pers : ∀ l : List Nat, persL (setsC l) = true
  | [] => rfl
  | S :: l => by unfold setsC; rw [List.flatMap_cons]; exact persL_append (setC_pers S) (setsC_pers l)
theorem part_sets {l : List Nat} {j S : Nat} (h : l[j]? = some S) : partD true 16 ((j : Int).toNat * 16) (setsC l) = some (setD S) := by
  rw [Int.toNat_natCast]
  unfold partD setsC
  simp only [if_true]
  have key : ∀ (l : List Nat) (j : Nat), l[j]? = some S → ((l.flatMap setC).drop (j * 16)).take 16 = setC S := by
    intro l
    induction l with
    | nil => intro j h; simp at h
    | cons T l ih =>
      intro j h
      cases j with
      | zero =>
        rw [List.getElem?_cons_zero] at h
        rw [Option.some.inj h, List.flatMap_cons, Nat.zero_mul, List.drop_zero, List.take_append_of_le_length (by rw [setC_len]; exact Nat.le_refl _), List.take_of_length_le (by rw [setC_len]; exact Nat.le_refl _)]
      | succ j =>
        rw [List.getElem?_cons_succ] at h
        rw [List.flatMap_cons, show (j + 1) * 16 = (setC T).length + j * 16 by rw [setC_len]; omega, List.drop_length_add_append]
        exact ih j h
  have hlen : ∀ l : List Nat, (l.flatMap setC).length = l.length * 16 := by
    intro l
    induction l with
    | nil => rfl
    | cons T l ih => rw [List.flatMap_cons, List.length_append, setC_len, ih, List.length_cons]; omega
  have hj := (List.getElem?_eq_some_iff.1 h).1
  rw [if_pos (by rw [hlen]; omega), key l j h]
theorem setsC_len : ∀ l : List Nat, (setsC l).length = l.length * 16
  | [] => rfl
  | S :: l => by
    have := setsC_len l
    unfold setsC at this ⊢
    rw [List.flatMap_cons, List.length_append, setC_len, this, List.length_cons]; omega
instance {l : List Nat} : PersL (setsC l) := ⟨setsC_pers l⟩
attribute [irreducible] setsC
def cmpSs : List Nat → List Nat → Int
  | [], [] => 0
  | _ :: _, [] => 1
  | [], _ :: _ => -1
  | x :: xs, y :: ys => if cmpN x y = 0 then cmpSs xs ys else cmpN x y
theorem cmpSs_els : ∀ (l m : List Nat), (∀ S ∈ l, SetOk S) → (∀ S ∈ m, SetOk S) → cmpLs (l.map els) (m.map els) = cmpSs l m
  | [], [], _, _ => rfl
  | _ :: _, [], _, _ => rfl
  | [], _ :: _, _, _ => rfl
  | x :: xs, y :: ys, h1, h2 => by
    have ih := cmpSs_els xs ys (fun S h => h1 S (List.mem_cons_of_mem _ h)) (fun S h => h2 S (List.mem_cons_of_mem _ h))
    show (if cmpL (els x) (els y) = 0 then cmpLs (xs.map els) (ys.map els) else cmpL (els x) (els y)) = _
    rw [cmp_els (h1 x (List.mem_cons_self ..)) (h2 y (List.mem_cons_self ..)), ih]; rfl
theorem drop_one {α : Type} {l : List α} {i : Nat} {x : α} (h : l[i]? = some x) : l.drop i = x :: l.drop (i + 1) := by
  obtain ⟨hi, he⟩ := List.getElem?_eq_some_iff.1 h
  rw [List.drop_eq_getElem_cons hi, he]
theorem lists_d (l : List Nat) (hl : l.length ≤ 1000) : DFun Tryd.prog 39 [setsD l] (rowsD (l.map els)) := by
  refine DFun.enterA Tryd.func39 Tryd.ntmps39 ?_
  refine DW.walkTo 2 ?_
  refine DW.adopt 3 900 28 1 rfl rfl ?_
  refine DW.walk ?_
  refine DW.loopA (fun j : Nat => ⟨[(0, setsD l), (3, .own 900 j), (4, .flat (.int .i64 j))], [(900, some (.row 28 1 j ((l.take j).map fun S => intsD (els S))))]⟩) (fun j => j ≤ l.length) (fun j => l.length - j) 0 ?_ (by omega)
  intro j hj
  rcases Nat.lt_or_ge j l.length with hlt | hge
  · obtain ⟨S, hx⟩ : ∃ x, l[j]? = some x := ⟨l[j], by simp⟩
    have h0 := part_sets hx
    have h1 := to_d S
    have hY : ((l.take (j + 1)).map fun S => intsD (els S)) = ((l.take j).map fun S => intsD (els S)) ++ [.sl false 1 (els S).length ((els S).map fun x => .flat (.int .i64 x))] := by rw [List.take_add_one, hx, List.map_append]; rfl
    have hp : persL ((l.take (j + 1)).map fun S => intsD (els S)) = true := persL_map (fun _ => rfl) _
    rw [hY] at hp
    generalize ((l.take j).map fun S => intsD (els S)) = X at *
    generalize els S = L at *
    refine DW.walk ?_
    refine ⟨j + 1, by omega, by omega, ?_⟩
    rw [hY]
    exact Sub.auto
  · have hje : j = l.length := by omega
    subst hje
    rw [List.take_length]
    refine DW.walk ?_
    exact ⟨.inr rfl, ResOk.one [(900, some (.row 28 1 l.length (l.map fun S => intsD (els S))))] rfl rfl ⟨rfl, trivial⟩ (Vw.le (Vw.own (.head _) (VwL.pers (persL_map (fun _ => rfl) _))) (Le.of_eq (by simp [rowsD])))⟩
end Go.Proofs.YtgcmajgkcahbnaaDoor
