/- Contracts over data: the reference, With, Or. No condition. -/
import Derived.Test.YtgcmajgkcahbnaaDoorXSl
import Derived.Test.YtgcmajgkcahbnaaDoorYB1
import Derived.Test.YtgcmajgkcahbnaaDoorYAT
import Derived.Test.YtgcmajgkcahbnaaDoorYD2

set_option linter.unusedSimpArgs false
set_option linter.unusedVariables false
set_option maxHeartbeats 4000000
set_option maxRecDepth 8000
namespace Go.Proofs.YtgcmajgkcahbnaaDoor
open Go Go.RowKit Go.PP Go.Dm Go.Bs
structure WSt where
  j : Nat
  d : Bool
  X : List Int
structure WOk (r : List Int) (n : Int) (s : WSt) : Prop where
  le : s.j ≤ r.length
  len : s.X.length ≤ s.j + 1
  no : s.d = false → s.X = r.take s.j ∧ insL r n = r.take s.j ++ insL (r.drop s.j) n
  yes : s.d = true → insL r n = s.X ++ r.drop s.j
theorem drop_at {l : List Int} {i : Nat} {x : Int} (h : l[i]? = some x) : l.drop i = x :: l.drop (i + 1) := by
  obtain ⟨hi, he⟩ := List.getElem?_eq_some_iff.1 h
  rw [List.drop_eq_getElem_cons hi, he]
theorem insL_cons (x : Int) (xs : List Int) (n : Int) : insL (x :: xs) n = if x > n then n :: x :: xs else x :: insL xs n := rfl
theorem take_at {l : List Int} {i : Nat} {x : Int} (h : l[i]? = some x) : l.take (i + 1) = l.take i ++ [x] := by rw [List.take_add_one, h]; rfl
theorem rwith_in (r : List Int) (n : Int) (hr : r.length ≤ 100000) (h0 : 0 ≤ n) (h1 : n ≤ 1023) (hm : ¬ n ∈ r) : DFun Tryd.prog 24 [intsD r, .flat (.int .i64 n)] (intsD (insL r n)) := by
  have hH := rhas_d r n (by omega)
  rw [decide_eq_false hm] at hH
  have o20 : OwnAt 20 := .of _
  refine DFun.enterA Tryd.func24 Tryd.ntmps24 ?_
  refine DW.walk ?_
  clear hH hm
  refine DW.loopA (fun s : WSt => ⟨[(0, intsD r), (1, .flat (.int .i64 n)), (5, .own 20 s.X.length), (6, .flat (.bool s.d)), (7, .flat (.int .i64 s.j))], [(20, some (.row 3 1 s.X.length (s.X.map fun x => .flat (.int .i64 x))))]⟩) (fun s => WOk r n s) (fun s => r.length - s.j) ⟨0, false, []⟩ ?_ ⟨Nat.zero_le _, Nat.zero_le _, fun _ => ⟨rfl, rfl⟩, fun h => (by cases h)⟩
  rintro ⟨j, d, X⟩ ⟨hj, hXl, hno, hyes⟩
  simp only at hj hXl hno hyes ⊢
  rcases Nat.lt_or_ge j r.length with hlt | hge
  · obtain ⟨x, hx⟩ : ∃ x, r[j]? = some x := ⟨r[j], by simp⟩
    have h2 := part_map (f := fun x => D.flat (.int .i64 x)) hx
    cases d with
    | true =>
      have hy := hyes rfl
      rw [drop_at hx] at hy
      have hok : WOk r n ⟨j + 1, true, X ++ [x]⟩ := ⟨by show j + 1 ≤ _; omega, by show (X ++ [x]).length ≤ j + 1 + 1; simp; omega, fun h => (by cases h), fun _ => by show insL r n = (X ++ [x]) ++ r.drop (j + 1); rw [hy]; simp⟩
      clear hno hyes hy
      refine DW.walk ?_
      exact ⟨_, hok, by show _ - (j + 1) < _ - j; omega, Sub.auto⟩
    | false =>
      obtain ⟨e1, e2⟩ := hno rfl
      rw [drop_at hx, insL_cons] at e2
      by_cases hc : x > n
      · rw [if_pos hc] at e2
        have hok : WOk r n ⟨j + 1, true, X ++ [n] ++ [x]⟩ := ⟨by show j + 1 ≤ _; omega, by
          have : X.length ≤ j := by rw [e1, List.length_take]; omega
          show (X ++ [n] ++ [x]).length ≤ j + 1 + 1
          simp; omega, fun h => (by cases h), fun _ => by show insL r n = (X ++ [n] ++ [x]) ++ r.drop (j + 1); rw [e2, e1]; simp⟩
        clear hno hyes e1 e2
        refine DW.walk ?_
        exact ⟨_, hok, by show _ - (j + 1) < _ - j; omega, Sub.auto⟩
      · rw [if_neg hc] at e2
        have hok : WOk r n ⟨j + 1, false, X ++ [x]⟩ := ⟨by show j + 1 ≤ _; omega, by show (X ++ [x]).length ≤ j + 1 + 1; simp; omega, fun _ => by
          show X ++ [x] = r.take (j + 1) ∧ insL r n = r.take (j + 1) ++ insL (r.drop (j + 1)) n
          rw [take_at hx, e1, e2]
          exact ⟨rfl, by simp⟩, fun h => (by cases h)⟩
        clear hno hyes e1 e2
        refine DW.walk ?_
        exact ⟨_, hok, by show _ - (j + 1) < _ - j; omega, Sub.auto⟩
  · have hje : j = r.length := by omega
    subst hje
    cases d with
    | true =>
      have hy := hyes rfl
      rw [List.drop_length, List.append_nil] at hy
      rw [hy]
      clear hno hyes hy
      refine DW.walk ?_
      exact ⟨.inr rfl, ResOk.one [(20, some (.row 3 1 X.length (X.map fun x => .flat (.int .i64 x))))] rfl rfl ⟨rfl, trivial⟩ (Vw.own (.head _) (VwL.pers (persL_map (fun _ => rfl) _)))⟩
    | false =>
      obtain ⟨e1, e2⟩ := hno rfl
      rw [List.drop_length, ← e1] at e2
      rw [show insL r n = X ++ [n] from e2]
      clear hno hyes e1 e2
      refine DW.walk ?_
      exact ⟨.inr rfl, ResOk.one [(20, some (.row 3 1 (X.length + 1) ((X.map fun x => .flat (.int .i64 x)) ++ [.flat (.int .i64 n)])))] rfl rfl ⟨rfl, trivial⟩ (Vw.le (Vw.own (.head _) (VwL.pers (persL_append (persL_map (fun _ => rfl) _) rfl))) (Le.of_eq (by simp [intsD])))⟩
theorem rwith_d (r : List Int) (n : Int) (hr : r.length ≤ 100000) : DFun Tryd.prog 24 [intsD r, .flat (.int .i64 n)] (intsD (withL r n)) := by
  unfold withL
  by_cases h1 : n < 0
  · rw [if_pos (.inl h1)]
    refine DFun.enterA Tryd.func24 Tryd.ntmps24 ?_
    refine DW.walk ?_
    exact ⟨.inr rfl, ResOk.one [] rfl rfl trivial (Vw.pers rfl)⟩
  · by_cases h2 : n > 1023
    · rw [if_pos (.inr (.inl h2))]
      refine DFun.enterA Tryd.func24 Tryd.ntmps24 ?_
      refine DW.walk ?_
      exact ⟨.inr rfl, ResOk.one [] rfl rfl trivial (Vw.pers rfl)⟩
    · by_cases h3 : n ∈ r
      · rw [if_pos (.inr (.inr h3))]
        have hH := rhas_d r n (by omega)
        rw [decide_eq_true h3] at hH
        refine DFun.enterA Tryd.func24 Tryd.ntmps24 ?_
        refine DW.walk ?_
        exact ⟨.inr rfl, ResOk.one [] rfl rfl trivial (Vw.pers rfl)⟩
      · rw [if_neg (by rintro (h | h | h) <;> contradiction)]
        exact rwith_in r n hr (by omega) (by omega) h3
theorem insL_len (n : Int) : ∀ r : List Int, (insL r n).length ≤ r.length + 1
  | [] => Nat.le_refl _
  | x :: xs => by
    have := insL_len n xs
    rw [insL_cons]
    split
    · exact Nat.le_refl _
    · simp only [List.length_cons]; omega
theorem withL_len (r : List Int) (n : Int) : (withL r n).length ≤ r.length + 1 := by
  unfold withL
  split
  · omega
  · exact insL_len n r
theorem foldW_len : ∀ (l r : List Int), (l.foldl withL r).length ≤ r.length + l.length
  | [], r => Nat.le_refl _
  | x :: l, r => by
    have := foldW_len l (withL r x)
    have := withL_len r x
    rw [List.foldl_cons, List.length_cons]
    omega
theorem ror_d (a b : List Int) (ha : a.length ≤ 10000) (hb : b.length ≤ 10000) : DFun Tryd.prog 30 [intsD a, intsD b] (intsD (orL a b)) := by
  refine DFun.enterA Tryd.func30 Tryd.ntmps30 ?_
  refine DW.walk ?_
  refine DW.loopA (fun j : Nat => ⟨[(1, intsD b), (5, intsD ((b.take j).foldl withL a)), (6, .flat (.int .i64 j))], []⟩) (fun j => j ≤ b.length) (fun j => b.length - j) 0 ?_ (by omega)
  intro j hj
  rcases Nat.lt_or_ge j b.length with hlt | hge
  · obtain ⟨x, hx⟩ : ∃ x, b[j]? = some x := ⟨b[j], by simp⟩
    have h0 := part_map (f := fun x => D.flat (.int .i64 x)) hx
    have hY : (b.take (j + 1)).foldl withL a = withL ((b.take j).foldl withL a) x := by
      rw [List.take_add_one, hx, Option.toList_some, List.foldl_append]; rfl
    have hl := foldW_len (b.take j) a
    rw [List.length_take] at hl
    have hW := rwith_d ((b.take j).foldl withL a) x (by omega)
    rw [← hY] at hW
    generalize (b.take j).foldl withL a = X at *
    generalize hZ : (b.take (j + 1)).foldl withL a = Z at *
    clear hY hl
    refine DW.walk ?_
    refine ⟨j + 1, by omega, by omega, ?_⟩
    rw [hZ]
    exact Sub.auto
  · have hje : j = b.length := by omega
    subst hje
    rw [List.take_length]
    unfold orL
    generalize b.foldl withL a = X
    refine DW.walk ?_
    exact ⟨.inr rfl, ResOk.one [] rfl rfl trivial (Vw.pers rfl)⟩
end Go.Proofs.YtgcmajgkcahbnaaDoor
