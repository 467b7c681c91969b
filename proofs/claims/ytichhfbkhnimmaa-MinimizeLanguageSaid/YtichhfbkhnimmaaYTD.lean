/- Trees, plainly: sizes, depths, orders, places. No condition. -/
import Derived.Test.YtichhfbkhnimmaaXW
import Derived.Test.YtichhfbkhnimmaaXQu
import Derived.SizedLaws

set_option linter.unusedSimpArgs false
set_option linter.unusedVariables false
namespace Go.Rt
open Go
inductive Tr where
  | node (s : Int) (l : List Tr)
instance : Inhabited Tr := ⟨.node 0 []⟩
def Tr.sym : Tr → Int
  | .node s _ => s
abbrev w64i (a : Int) : Int := IntKind.i64.wrap a
mutual
def sizeW : Tr → Int
  | .node _ l => sizeL 1 l
def sizeL : Int → List Tr → Int
  | n, [] => n
  | n, t :: ts => sizeL (w64i (n + sizeW t)) ts
end
mutual
def deepW : Tr → Int
  | .node _ l => deepL 0 l
def deepL : Int → List Tr → Int
  | n, [] => w64i (n + 1)
  | n, t :: ts => deepL (if deepW t > n then deepW t else n) ts
end
mutual
def nodesE (r : List Int) : Tr → Nat
  | .node s l => if s < 0 ∨ (r.length : Int) ≤ s then 6 else if (l.length : Int) ≠ r.getD s.toNat 0 then 3 else nodesL r l
def nodesL (r : List Int) : List Tr → Nat
  | [] => 0
  | t :: ts => if nodesE r t ≠ 0 then nodesE r t else nodesL r ts
end
def alphaE (r : List Int) : Nat :=
  if r.length < 1 ∨ 4096 < r.length then 2 else if ∃ n ∈ r, n < 0 ∨ 2 < n then 3 else if (0 : Int) ∈ r then 0 else 9
def rightE (r : List Int) (t : Tr) : Nat :=
  if alphaE r ≠ 0 then alphaE r else if 4096 < sizeW t then 2 else if 256 < deepW t then 16 else nodesE r t
def cmpI (a b : Int) : Int := if a < b then -1 else if a > b then 1 else 0
mutual
def cmpT : Tr → Tr → Int
  | .node s l, .node s' l' =>
    if cmpI (sizeL 1 l) (sizeL 1 l') ≠ 0 then cmpI (sizeL 1 l) (sizeL 1 l') else if cmpI s s' ≠ 0 then cmpI s s' else if cmpI l.length l'.length ≠ 0 then cmpI l.length l'.length else cmpL l l'
def cmpL : List Tr → List Tr → Int
  | t :: ts, u :: us => if cmpT t u ≠ 0 then cmpT t u else cmpL ts us
  | _, _ => 0
end
end Go.Rt

set_option linter.unusedSimpArgs false
set_option linter.unusedVariables false
set_option linter.unusedSectionVars false
set_option maxHeartbeats 400000
namespace Go.Rt
open Go Go.RowKit Go.PP Go.Dm
variable [GlobW]
mutual
def treeC : Tr → List D
  | .node s l => [.flat (.int .i64 s), .sl false 2 l.length (kidsC l)]
def kidsC : List Tr → List D
  | [] => []
  | t :: ts => treeC t ++ kidsC ts
end
abbrev treeD (t : Tr) : D := .agg (treeC t)
abbrev treesD (l : List Tr) : D := .sl false 2 l.length (kidsC l)
mutual
def TSm : Tr → Prop
  | .node _ l => l.length * 32 ≤ 140737488351232 ∧ TSmL l
def TSmL : List Tr → Prop
  | [] => True
  | t :: ts => TSm t ∧ TSmL ts
end
mutual
def SymR : Tr → Prop
  | .node s l => (-9223372036854775808 ≤ s ∧ s ≤ 9223372036854775807) ∧ SymRL l
def SymRL : List Tr → Prop
  | [] => True
  | t :: ts => SymR t ∧ SymRL ts
end
mutual
def depT : Tr → Nat
  | .node _ l => depL l + 1
def depL : List Tr → Nat
  | [] => 0
  | t :: ts => max (depT t) (depL ts)
end
theorem treeC_node (s : Int) (l : List Tr) : treeC (.node s l) = [.flat (.int .i64 s), treesD l] := by rw [treeC]
theorem treeD_node (s : Int) (l : List Tr) : treeD (.node s l) = .agg [.flat (.int .i64 s), treesD l] := by rw [treeD, treeC]
theorem kidsC_nil : kidsC [] = [] := by rw [kidsC]
theorem TSm_node {s : Int} {l : List Tr} : TSm (.node s l) ↔ l.length * 32 ≤ 140737488351232 ∧ TSmL l := by rw [TSm]
theorem SymRL.at : ∀ {l : List Tr}, SymRL l → ∀ {i : Nat} {t : Tr}, l[i]? = some t → SymR t
  | [], _, i, t, h => by simp at h
  | x :: xs, hs, i, t, h => by
    rw [SymRL] at hs
    cases i with
    | zero => simp at h; subst h; exact hs.1
    | succ i => exact SymRL.at hs.2 (by simpa using h)
theorem SymRL.of : ∀ {l : List Tr}, (∀ (i : Nat) t, l[i]? = some t → SymR t) → SymRL l
  | [], _ => by rw [SymRL]; trivial
  | x :: xs, h => by
    rw [SymRL]
    exact ⟨h 0 x (by simp), SymRL.of fun i t hi => h (i + 1) t (by simpa using hi)⟩
theorem depT_node {s : Int} {l : List Tr} : depT (.node s l) = depL l + 1 := by rw [depT]
theorem TSmL.at : ∀ {l : List Tr}, TSmL l → ∀ {i : Nat} {t : Tr}, l[i]? = some t → TSm t
  | [], _, i, t, h => by simp at h
  | x :: xs, hs, i, t, h => by
    rw [TSmL] at hs
    cases i with
    | zero => simp at h; subst h; exact hs.1
    | succ i => exact TSmL.at hs.2 (by simpa using h)
theorem TSmL.of : ∀ {l : List Tr}, (∀ (i : Nat) t, l[i]? = some t → TSm t) → TSmL l
  | [], _ => by rw [TSmL]; trivial
  | x :: xs, h => by
    rw [TSmL]
    exact ⟨h 0 x (by simp), TSmL.of fun i t hi => h (i + 1) t (by simpa using hi)⟩
theorem depL_at : ∀ {l : List Tr} {i : Nat} {t : Tr}, l[i]? = some t → depT t ≤ depL l
  | [], i, t, h => by simp at h
  | x :: xs, i, t, h => by
    rw [depL]
    cases i with
    | zero => simp at h; subst h; omega
    | succ i => have := depL_at (l := xs) (i := i) (t := t) (by simpa using h); omega
theorem treeC_two (t : Tr) : (treeC t).length = 2 := by cases t with | node s l => rw [treeC]; rfl
theorem kidsC_len : ∀ l : List Tr, (kidsC l).length = l.length * 2
  | [] => by rw [kidsC]; rfl
  | t :: ts => by rw [kidsC, List.length_append, treeC_two, kidsC_len ts, List.length_cons]; omega
theorem kidsC_append : ∀ l r : List Tr, kidsC (l ++ r) = kidsC l ++ kidsC r
  | [], r => by rw [kidsC]; rfl
  | t :: ts, r => by rw [List.cons_append, kidsC, kidsC, kidsC_append ts r, List.append_assoc]
theorem kidsC_one (t : Tr) : kidsC [t] = treeC t := by rw [kidsC, kidsC, List.append_nil]
theorem kidsC_snoc {l : List Tr} {i : Nat} {t : Tr} (h : l[i]? = some t) : kidsC (l.take (i + 1)) = kidsC (l.take i) ++ treeC t := by
  rw [List.take_add_one, h, kidsC_append, Option.toList_some, kidsC_one]
theorem kidsC_drop : ∀ {l : List Tr} {i : Nat} {t : Tr}, l[i]? = some t → ((kidsC l).drop (i * 2)).take 2 = treeC t
  | [], i, t, h => by simp at h
  | x :: xs, i, t, h => by
    rw [kidsC]
    cases i with
    | zero =>
      simp at h; subst h
      rw [Nat.zero_mul, List.drop_zero, List.take_append_of_le_length (by rw [treeC_two]; omega), List.take_of_length_le (by rw [treeC_two]; omega)]
    | succ i =>
      rw [List.drop_append, List.drop_eq_nil_of_le (by rw [treeC_two]; omega), List.nil_append, treeC_two, show (i + 1) * 2 - 2 = i * 2 by omega]
      exact kidsC_drop (by simpa using h)
theorem part_kids {l : List Tr} {i : Nat} {t : Tr} (h : l[i]? = some t) : partD true 2 (i * 2) (kidsC l) = some (treeD t) := by
  have hi := (List.getElem?_eq_some_iff.1 h).1
  have h1 := kidsC_drop h
  have h2 := kidsC_len l
  simp only [partD, treeD]
  simp only [h1, treeC_two]
  first
    | rfl
    | (rw [if_pos (by omega)]; rfl)
    | (simp; omega)
    | simp
theorem treeC_pers (t : Tr) : persL (treeC t) = true := by cases t with | node s l => rw [treeC]; rfl
theorem kidsC_pers : ∀ l : List Tr, persL (kidsC l) = true
  | [] => by rw [kidsC]; rfl
  | t :: ts => by rw [kidsC]; exact persL_append (treeC_pers t) (kidsC_pers ts)
theorem treeD_pers (t : Tr) : pers (treeD t) = true := treeC_pers t
instance (l : List Tr) : PersL (kidsC l) := ⟨kidsC_pers l⟩
instance (t : Tr) : PersL (treeC t) := ⟨treeC_pers t⟩
instance (t : Tr) : PersD (treeD t) := ⟨treeD_pers t⟩
theorem oneL_app : ∀ {l r : List D}, oneL l = true → oneL r = true → oneL (l ++ r) = true
  | [], r, _, h => h
  | d :: ds, r, h1, h2 => by
    simp only [oneL, Bool.and_eq_true] at h1
    simp only [List.cons_append, oneL, Bool.and_eq_true]
    exact ⟨h1.1, oneL_app h1.2 h2⟩
theorem repC_kids {M : Nat → Prop} {w : World} {b : Nat} : ∀ {l : List Tr} {off : Nat}, (∀ (i : Nat) t, l[i]? = some t → ∃ c0 c1, w.cell? ⟨b, off + i * 2, none⟩ = some c0 ∧ w.cell? ⟨b, off + i * 2 + 1, none⟩ = some c1 ∧ RepL M w none (treeC t) [c0, c1]) → RepC M w b off (kidsC l)
  | [], off, _ => by rw [kidsC]; simp only [RepC]
  | x :: xs, off, h => by
    rw [kidsC]
    obtain ⟨c0, c1, q0, q1, q2⟩ := h 0 x (by simp)
    have hr : RepC M w b (off + 2) (kidsC xs) := repC_kids fun i t hi => by
      obtain ⟨c0, c1, q0, q1, q2⟩ := h (i + 1) t (by simpa using hi)
      exact ⟨c0, c1, by rw [show off + 2 + i * 2 = off + (i + 1) * 2 by omega]; exact q0, by rw [show off + 2 + i * 2 + 1 = off + (i + 1) * 2 + 1 by omega]; exact q1, q2⟩
    cases x with
    | node s l =>
      rw [treeC] at q2 ⊢
      simp only [RepL, List.cons.injEq] at q2
      obtain ⟨u1, us1, ⟨rfl, rfl⟩, r1, u2, us2, ⟨rfl, rfl⟩, r2, -⟩ := q2
      simp only [List.cons_append, List.nil_append, RepC]
      exact ⟨⟨_, by simpa using q0, r1⟩, ⟨_, by simpa using q1, r2⟩, hr⟩
end Go.Rt

set_option linter.unusedSimpArgs false
set_option linter.unusedVariables false
namespace Go.Rt
open Go
theorem cmpI_self (a : Int) : cmpI a a = 0 := by unfold cmpI; rw [if_neg (by omega), if_neg (by omega)]
theorem cmpI_swap (a b : Int) : cmpI b a = - cmpI a b := by
  unfold cmpI
  rcases Int.lt_trichotomy a b with h | h | h
  · rw [if_neg (by omega), if_pos (by omega), if_pos h]; rfl
  · subst h; rw [if_neg (by omega), if_neg (by omega)]; rfl
  · rw [if_pos h, if_neg (by omega), if_pos (by omega)]
theorem cmpI_lt {a b : Int} : cmpI a b < 0 ↔ a < b := by
  unfold cmpI
  split
  · constructor <;> intro h <;> omega
  · split
    · constructor <;> intro h <;> omega
    · constructor <;> intro h <;> omega
theorem cmpI_zero {a b : Int} : cmpI a b = 0 ↔ a = b := by
  unfold cmpI
  split
  · constructor <;> intro h <;> omega
  · split
    · constructor <;> intro h <;> omega
    · constructor <;> intro h <;> omega
theorem sizeW_node (s : Int) (l : List Tr) : sizeW (.node s l) = sizeL 1 l := by rw [sizeW]
theorem cmpT_node (s s' : Int) (l l' : List Tr) : cmpT (.node s l) (.node s' l') = if cmpI (sizeL 1 l) (sizeL 1 l') ≠ 0 then cmpI (sizeL 1 l) (sizeL 1 l') else if cmpI s s' ≠ 0 then cmpI s s' else if cmpI l.length l'.length ≠ 0 then cmpI l.length l'.length else cmpL l l' := by rw [cmpT]
theorem cmpL_cons (t u : Tr) (ts us : List Tr) : cmpL (t :: ts) (u :: us) = if cmpT t u ≠ 0 then cmpT t u else cmpL ts us := by rw [cmpL]
theorem cmpL_nil (us : List Tr) : cmpL [] us = 0 := by rw [cmpL]; rintro t ts u us h; cases h
theorem cmpL_nil2 (ts : List Tr) : cmpL ts [] = 0 := by rw [cmpL]; rintro t ts u us _ h; cases h
mutual
theorem cmpT_swap : ∀ t u : Tr, cmpT u t = - cmpT t u
  | .node s l, .node s' l' => by
    rw [cmpT_node, cmpT_node, cmpI_swap (sizeL 1 l) (sizeL 1 l'), cmpI_swap s s', cmpI_swap l.length l'.length, cmpL_swap l l']
    by_cases h1 : cmpI (sizeL 1 l) (sizeL 1 l') = 0
    · by_cases h2 : cmpI s s' = 0
      · by_cases h3 : cmpI l.length l'.length = 0
        · simp [h1, h2, h3]
        · simp [h1, h2, h3]
      · simp [h1, h2]
    · simp [h1]
theorem cmpL_swap : ∀ l l' : List Tr, cmpL l' l = - cmpL l l'
  | [], l' => by rw [cmpL_nil2, cmpL_nil]; rfl
  | t :: ts, [] => by rw [cmpL_nil2, cmpL_nil]; rfl
  | t :: ts, u :: us => by
    rw [cmpL_cons, cmpL_cons, cmpT_swap t u, cmpL_swap ts us]
    by_cases h : cmpT t u = 0
    · simp [h]
    · simp [h]
end
mutual
theorem cmpT_self : ∀ t : Tr, cmpT t t = 0
  | .node s l => by rw [cmpT_node, cmpI_self, cmpI_self, cmpI_self]; simp [cmpL_self l]
theorem cmpL_self : ∀ l : List Tr, cmpL l l = 0
  | [] => cmpL_nil _
  | t :: ts => by rw [cmpL_cons, cmpT_self t]; simp [cmpL_self ts]
end
mutual
theorem cmpT_eq : ∀ t u : Tr, cmpT t u = 0 → t = u
  | .node s l, .node s' l', h => by
    rw [cmpT_node] at h
    by_cases h1 : cmpI (sizeL 1 l) (sizeL 1 l') = 0
    · by_cases h2 : cmpI s s' = 0
      · by_cases h3 : cmpI l.length l'.length = 0
        · simp only [h1, h2, h3, ne_eq, not_true_eq_false, if_false] at h
          have h3 := cmpI_zero.1 h3
          rw [cmpI_zero.1 h2, cmpL_eq l l' (by omega) h]
        · simp [h1, h2, h3] at h
      · simp [h1, h2] at h
    · simp [h1] at h
theorem cmpL_eq : ∀ l l' : List Tr, l.length = l'.length → cmpL l l' = 0 → l = l'
  | [], [], _, _ => rfl
  | [], _ :: _, h, _ => by cases h
  | _ :: _, [], h, _ => by cases h
  | t :: ts, u :: us, hl, h => by
    rw [cmpL_cons] at h
    by_cases h1 : cmpT t u = 0
    · simp only [h1, ne_eq, not_true_eq_false, if_false] at h
      rw [cmpT_eq t u h1, cmpL_eq ts us (by simpa using hl) h]
    · simp [h1] at h
end
theorem cmpT_lt {s s' : Int} {l l' : List Tr} : cmpT (.node s l) (.node s' l') < 0 ↔ sizeL 1 l < sizeL 1 l' ∨ (sizeL 1 l = sizeL 1 l' ∧ (s < s' ∨ (s = s' ∧ (l.length < l'.length ∨ (l.length = l'.length ∧ cmpL l l' < 0))))) := by
  rw [cmpT_node]
  by_cases h1 : cmpI (sizeL 1 l) (sizeL 1 l') = 0
  · have e1 := cmpI_zero.1 h1
    by_cases h2 : cmpI s s' = 0
    · have e2 := cmpI_zero.1 h2
      by_cases h3 : cmpI l.length l'.length = 0
      · have e3 := cmpI_zero.1 h3
        simp only [h1, h2, h3, ne_eq, not_true_eq_false, if_false]
        omega
      · have e3 := mt cmpI_zero.2 h3
        simp only [h1, h2, h3, ne_eq, not_true_eq_false, if_false, not_false_eq_true, if_true]
        rw [cmpI_lt]
        omega
    · have e2 := mt cmpI_zero.2 h2
      simp only [h1, h2, ne_eq, not_true_eq_false, if_false, not_false_eq_true, if_true]
      rw [cmpI_lt]
      omega
  · have e1 := mt cmpI_zero.2 h1
    simp only [h1, ne_eq, not_false_eq_true, if_true]
    rw [cmpI_lt]
    omega
theorem cmpL_lt {t u : Tr} {ts us : List Tr} : cmpL (t :: ts) (u :: us) < 0 ↔ cmpT t u < 0 ∨ (t = u ∧ cmpL ts us < 0) := by
  rw [cmpL_cons]
  by_cases h : cmpT t u = 0
  · have e := cmpT_eq t u h
    subst e
    simp [h]
  · have e : t ≠ u := fun e => h (by rw [e]; exact cmpT_self u)
    simp [h, e]
mutual
theorem cmpT_trans : ∀ t u v : Tr, cmpT t u < 0 → cmpT u v < 0 → cmpT t v < 0
  | .node s l, .node s' l', .node s2 l2, h1, h2 => by
    rw [cmpT_lt] at h1 h2 ⊢
    have ih := cmpL_trans l l' l2
    omega
theorem cmpL_trans : ∀ l l' l2 : List Tr, l.length = l'.length → l'.length = l2.length → cmpL l l' < 0 → cmpL l' l2 < 0 → cmpL l l2 < 0
  | [], l', l2, _, _, h, _ => by rw [cmpL_nil] at h; omega
  | t :: ts, [], _, h, _, _, _ => by cases h
  | _ :: _, _ :: _, [], _, h, _, _ => by cases h
  | t :: ts, u :: us, v :: vs, e1, e2, h1, h2 => by
    rw [cmpL_lt] at h1 h2 ⊢
    rcases h1 with h1 | ⟨rfl, h1⟩
    · rcases h2 with h2 | ⟨rfl, h2⟩
      · exact .inl (cmpT_trans t u v h1 h2)
      · exact .inl h1
    · rcases h2 with h2 | ⟨rfl, h2⟩
      · exact .inl h2
      · exact .inr ⟨rfl, cmpL_trans ts us vs (by simpa using e1) (by simpa using e2) h1 h2⟩
end
mutual
def sizeT : Tr → Nat
  | .node _ l => sizeTL l + 1
def sizeTL : List Tr → Nat
  | [] => 0
  | t :: ts => sizeT t + sizeTL ts
end
theorem sizeT_node (s : Int) (l : List Tr) : sizeT (.node s l) = sizeTL l + 1 := by rw [sizeT]
theorem sizeTL_cons (t : Tr) (ts : List Tr) : sizeTL (t :: ts) = sizeT t + sizeTL ts := by rw [sizeTL]
theorem sizeT_pos (t : Tr) : 0 < sizeT t := by cases t; rw [sizeT]; omega
theorem sizeTL_at : ∀ {l : List Tr} {i : Nat} {t : Tr}, l[i]? = some t → sizeT t ≤ sizeTL l
  | [], i, t, h => by simp at h
  | x :: xs, i, t, h => by
    rw [sizeTL]
    cases i with
    | zero => simp at h; subst h; omega
    | succ i => have := sizeTL_at (l := xs) (i := i) (t := t) (by simpa using h); omega
theorem w64i_in {a : Int} (h1 : -9223372036854775808 ≤ a) (h2 : a ≤ 9223372036854775807) : w64i a = a := by unfold w64i; rw [IntKind.wrap_i64]; omega
mutual
theorem sizeW_eq : ∀ t : Tr, sizeT t ≤ 4611686018427387904 → sizeW t = sizeT t
  | .node s l, h => by
    rw [sizeT_node] at h
    rw [sizeW_node, sizeT_node, sizeL_eq l 1 (by omega) (by omega) (by omega)]
    omega
theorem sizeL_eq : ∀ (l : List Tr) (n : Int), 0 ≤ n → n + sizeTL l ≤ 4611686018427387905 → sizeTL l ≤ 4611686018427387904 → sizeL n l = n + sizeTL l
  | [], n, _, _, _ => by rw [sizeL, sizeTL]; omega
  | t :: ts, n, h0, h, h2 => by
    rw [sizeTL] at h h2 ⊢
    rw [sizeL, sizeW_eq t (by omega), w64i_in (by omega) (by omega), sizeL_eq ts _ (by omega) (by omega) (by omega)]
    omega
end
end Go.Rt

set_option linter.unusedSimpArgs false
set_option linter.unusedVariables false
set_option linter.unusedSectionVars false
set_option maxHeartbeats 400000
namespace Go.Rt
open Go Go.RowKit Go.PP Go.Dm Go.Deep
variable [GlobW]
section
variable {P : Program} {tT tS : TypeId} {f0 f1 : Field}
set_option maxRecDepth 100000 in
theorem open_tree {H : Type} {enc : TypeId × Value → H} {w : World} {base : Nat} {held : Bool} (hT : P.underlying tT = some (.struct #[f0, f1])) (o0 : f0.offset = 0) (o1 : f1.offset = 1) (t1 : f1.type = tS) (hI : P.underlying f0.type = some (.int .i64)) (hS : P.underlying tS = some (.slice tT)) (cT : P.cellsOf tT = 2) (cS : P.cellsOf tS = 1) (cI : P.cellsOf f0.type = 1) (bT : P.bytesOf tT = 32) : ∀ (fuel : Nat) (cs : List Value) (x : DataW H × List MemPlace), DataW.trod enc P w base (fun _ => true) held fuel tT cs = some x → (∀ n ∈ x.1.weights P tT, n ≤ reachBytes) →
    ∃ t, RepL (fun _ => False) w none (treeC t) cs ∧ TSm t ∧ SymR t := by
  intro fuel
  induction fuel using Nat.strongRecOn with
  | _ fuel ih =>
    intro cs x h hw
    obtain ⟨xs, m, rfl, hx, hl, hsz, hi⟩ := DataW.trod_struct hT h
    rw [cT] at hl
    match cs, hl with
    | [c0, c1], _ =>
      have g0 := hi 0 f0 rfl
      have g1 := hi 1 f1 rfl
      rw [o0, cI] at g0
      rw [o1, t1, cS] at g1
      have hx2 : xs.length = 2 := hsz
      obtain ⟨y0, y1, rfl⟩ : ∃ y0 y1, xs = [y0, y1] := by
        match xs, hx2 with
        | [y0, y1], _ => exact ⟨y0, y1, rfl⟩
      have g0' : DataW.trod enc P w base (fun _ => true) held m f0.type [c0] = some y0 := g0
      have g1' : DataW.trod enc P w base (fun _ => true) held m tS [c1] = some y1 := g1
      obtain ⟨z, hz, -, hwf⟩ := DataW.trod_int hI g0'
      have hrz : -9223372036854775808 ≤ z ∧ z ≤ 9223372036854775807 := by simpa [Lit.wf, IntKind.min, IntKind.max, IntKind.signed, IntKind.bits] using hwf
      simp only [List.cons.injEq, and_true] at hz
      subst hz
      have hwe : ∀ n ∈ y1.1.weights P tS, n ≤ reachBytes := fun n hn => hw n (by
        rw [hx]
        simp only [DataW.weights, hT]
        exact DataW.weights_mem_each (j := 1) (t := f1.type) (d := y1.1) rfl rfl n (by rw [t1]; exact hn))
      rcases DataW.trod_slice hS g1' with ⟨hc, _⟩ | ⟨a, len, cap, elems, rest, k, rfl, hc, hxx, hb, hle, hmx, hel, hee, _, _⟩
      · simp only [List.cons.injEq, and_true] at hc
        subst hc
        refine ⟨.node z [], ?_, ?_, ?_⟩
        · rw [treeC]
          simp only [RepL, Rep]
          exact ⟨_, _, rfl, rfl, _, _, rfl, ⟨none, 0, rfl, by simp, fun h => (by cases h), by rw [kidsC]; rfl, by simp, .inl (by simp)⟩, rfl⟩
        · rw [TSm]; exact ⟨by simp, by rw [TSmL]; trivial⟩
        · rw [SymR]; exact ⟨hrz, by rw [SymRL]; trivial⟩
      · simp only [List.cons.injEq, and_true] at hc
        subst hc
        have hlen : len * 32 ≤ 140737488351232 := by
          have := hwe ((elems.length + rest.length) * 32) (by rw [hxx]; simp [DataW.weights, hS, bT])
          have h2 : reachBytes = 140737488351232 := by decide
          rw [h2, hel] at this
          have h3 : len * 32 ≤ (len + rest.length) * 32 := Nat.mul_le_mul_right _ (by omega)
          omega
        have each : ∀ i, i < len → ∃ y : (Value × Value) × Tr, w.cell? (a.add (i * 2)) = some y.1.1 ∧ w.cell? (a.add (i * 2 + 1)) = some y.1.2 ∧ RepL (fun _ => False) w none (treeC y.2) [y.1.1, y.1.2] ∧ TSm y.2 ∧ SymR y.2 := by
          intro i hi
          have he := hee i hi
          rw [cT, List.getElem?_eq_getElem (by omega)] at he
          obtain ⟨cs', h1, h2⟩ := Option.bind_eq_some_iff.1 he
          obtain ⟨hlen', hcell⟩ := (World.cells?_some h1).2
          obtain ⟨t1, htr, hts⟩ := ih k (by omega) cs' _ h2 (fun n hn => hwe n (by
            rw [hxx]
            simp only [DataW.weights, hS, List.mem_cons, List.mem_append]
            exact .inr (.inl (weightsAll_mem (List.mem_map.2 ⟨_, List.getElem_mem (by omega), rfl⟩) n hn))))
          match cs', hlen' with
          | [s1, v1], _ =>
            refine ⟨((s1, v1), t1), ?_, ?_, htr, hts⟩
            · have := hcell 0 (by omega); rw [add_add] at this; simpa using this
            · have := hcell 1 (by omega); rw [add_add] at this; simpa using this
        have : Inhabited ((Value × Value) × Tr) := ⟨((undef, undef), default)⟩
        obtain ⟨f, hf⟩ := choose_lt each
        refine ⟨.node z ((List.range len).map fun i => (f i).2), ?_, ?_, ?_⟩
        rotate_left
        · rw [TSm]
          refine ⟨by simpa using hlen, TSmL.of fun i t hit => ?_⟩
          have hi' : i < len := by have := (List.getElem?_eq_some_iff.1 hit).1; simpa using this
          simp [hi'] at hit
          rw [← hit]
          exact (hf i hi').2.2.2.1
        · rw [SymR]
          refine ⟨hrz, SymRL.of fun i t hit => ?_⟩
          have hi' : i < len := by have := (List.getElem?_eq_some_iff.1 hit).1; simpa using this
          simp [hi'] at hit
          rw [← hit]
          exact (hf i hi').2.2.2.2
        rw [treeC]
        simp only [RepL, Rep]
        refine ⟨_, _, rfl, rfl, _, _, rfl, ⟨some a, cap, by simp, by simpa using hle, fun h => (by cases h), by rw [kidsC_len], by simp; omega, ?_⟩, rfl⟩
        by_cases hl0 : len = 0
        · exact .inl (by simp [hl0])
        obtain ⟨b, off, spot⟩ := a
        have hspot : spot = none := by
          have := World.cell?_spot (hf 0 (by omega)).1
          simpa [Addr.add] using this
        subst hspot
        refine .inr ⟨b, off, rfl, id, repC_kids fun i t hit => ?_⟩
        have hi' : i < len := by have := (List.getElem?_eq_some_iff.1 hit).1; simpa using this
        simp [hi'] at hit
        obtain ⟨h1, h2, h3, _⟩ := hf i hi'
        refine ⟨(f i).1.1, (f i).1.2, ?_, ?_, by rw [← hit]; exact h3⟩
        · rw [show (⟨b, off, none⟩ : Addr).add (i * 2) = ⟨b, off + i * 2, none⟩ from by unfold Addr.add; split <;> simp_all] at h1; exact h1
        · rw [show (⟨b, off, none⟩ : Addr).add (i * 2 + 1) = ⟨b, off + i * 2 + 1, none⟩ from by unfold Addr.add; split <;> simp_all [Nat.add_assoc]] at h2; exact h2
theorem Opens.tree (hT : P.underlying tT = some (.struct #[f0, f1])) (o0 : f0.offset = 0) (o1 : f1.offset = 1) (t1 : f1.type = tS) (hI : P.underlying f0.type = some (.int .i64)) (hS : P.underlying tS = some (.slice tT)) (cT : P.cellsOf tT = 2) (cS : P.cellsOf tS = 1) (cI : P.cellsOf f0.type = 1) (bT : P.bytesOf tT = 32) : Opens P tT 2 treeC (fun t => TSm t ∧ SymR t) :=
  ⟨cT, treeC_two, fun H enc w base held fuel cs x h hw => open_tree hT o0 o1 t1 hI hS cT cS cI bT fuel cs x h hw⟩
end
end Go.Rt
