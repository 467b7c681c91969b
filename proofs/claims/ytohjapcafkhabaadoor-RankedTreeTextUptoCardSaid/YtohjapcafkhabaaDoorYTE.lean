/- Trees, plainly: sizes, depths, orders, places. No condition. -/
import Derived.Test.YtohjapcafkhabaaDoorXW

set_option linter.unusedSimpArgs false
set_option linter.unusedVariables false
namespace Go.Rt
open Go
/-- A tree: a symbol and children. -/
inductive Tr where
  | node (s : Int) (l : List Tr)
instance : Inhabited Tr := ⟨.node 0 []⟩
def Tr.sym : Tr → Int
  | .node s _ => s
def Tr.kids : Tr → List Tr
  | .node _ l => l
abbrev w64i (a : Int) : Int := IntKind.i64.wrap a
mutual
/-- The size as the program counts it. -/
def sizeW : Tr → Int
  | .node _ l => sizeL 1 l
def sizeL : Int → List Tr → Int
  | n, [] => n
  | n, t :: ts => sizeL (w64i (n + sizeW t)) ts
end
mutual
/-- The depth as the program counts it. -/
def deepW : Tr → Int
  | .node _ l => deepL 0 l
def deepL : Int → List Tr → Int
  | n, [] => w64i (n + 1)
  | n, t :: ts => deepL (if deepW t > n then deepW t else n) ts
end
mutual
/-- The first wrong node. -/
def nodesE (r : List Int) : Tr → Nat
  | .node s l => if s < 0 ∨ (r.length : Int) ≤ s then 6 else if (l.length : Int) ≠ r.getD s.toNat 0 then 3 else nodesL r l
def nodesL (r : List Int) : List Tr → Nat
  | [] => 0
  | t :: ts => if nodesE r t ≠ 0 then nodesE r t else nodesL r ts
end
/-- What Check says of an alphabet. -/
def alphaE (r : List Int) : Nat :=
  if r.length < 1 ∨ 4096 < r.length then 2 else if ∃ n ∈ r, n < 0 ∨ 2 < n then 3 else if (0 : Int) ∈ r then 0 else 9
/-- What Valid says of a tree. -/
def rightE (r : List Int) (t : Tr) : Nat :=
  if alphaE r ≠ 0 then alphaE r else if 4096 < sizeW t then 2 else if 256 < deepW t then 16 else nodesE r t
/-- The symbols with n children. -/
def symsOf (r : List Int) (n : Int) (i : Nat) : List Int := match r with
  | [] => []
  | k :: r => if k = n then (i : Int) :: symsOf r n (i + 1) else symsOf r n (i + 1)
def cmpI (a b : Int) : Int := if a < b then -1 else if a > b then 1 else 0
mutual
/-- The order of trees. -/
def cmpT : Tr → Tr → Int
  | .node s l, .node s' l' =>
    if cmpI (sizeL 1 l) (sizeL 1 l') ≠ 0 then cmpI (sizeL 1 l) (sizeL 1 l') else if cmpI s s' ≠ 0 then cmpI s s' else if cmpI l.length l'.length ≠ 0 then cmpI l.length l'.length else cmpL l l'
def cmpL : List Tr → List Tr → Int
  | t :: ts, u :: us => if cmpT t u ≠ 0 then cmpT t u else cmpL ts us
  | _, _ => 0
end
/-- The subtree at a path. -/
def atT : List Int → Tr → Option Tr
  | [], t => some t
  | i :: p, .node _ l => if i < 0 then none else match l[i.toNat]? with
    | some x => atT p x
    | none => none
/-- The subtree at a path replaced. -/
def withT (part : Tr) : List Int → Tr → Tr
  | [], _ => part
  | i :: p, .node s l => match l[i.toNat]? with
    | some x => .node s (l.set i.toNat (withT part p x))
    | none => .node s l
mutual
/-- The text of a tree. -/
def textT (num : Int → List UInt8) : Tr → List UInt8
  | .node s l => num s ++ (if l = [] then [] else textL num 40 l ++ [41])
def textL (num : Int → List UInt8) : UInt8 → List Tr → List UInt8
  | _, [] => []
  | c, t :: ts => c :: textT num t ++ textL num 44 ts
end
end Go.Rt

set_option linter.unusedSimpArgs false
set_option linter.unusedVariables false
set_option linter.unusedSectionVars false
set_option maxHeartbeats 400000
namespace Go.Rt
open Go Go.RowKit Go.PP Go.Dm
variable [GlobW]
mutual
def treeC : Tr → List D
  | .node s l => [.flat (.int .i64 s), .sl false 2 l.length (kidsC l)]
def kidsC : List Tr → List D
  | [] => []
  | t :: ts => treeC t ++ kidsC ts
end
abbrev treeD (t : Tr) : D := .agg (treeC t)
/-- A slice of trees. -/
abbrev treesD (l : List Tr) : D := .sl false 2 l.length (kidsC l)
mutual
/-- No slice of children takes more memory than there is. -/
def TSm : Tr → Prop
  | .node _ l => l.length * 32 ≤ 140737488351232 ∧ TSmL l
def TSmL : List Tr → Prop
  | [] => True
  | t :: ts => TSm t ∧ TSmL ts
end
mutual
/-- The symbols are numbers that the machine holds. -/
def SymR : Tr → Prop
  | .node s l => (-9223372036854775808 ≤ s ∧ s ≤ 9223372036854775807) ∧ SymRL l
def SymRL : List Tr → Prop
  | [] => True
  | t :: ts => SymR t ∧ SymRL ts
end
mutual
def depT : Tr → Nat
  | .node _ l => depL l + 1
def depL : List Tr → Nat
  | [] => 0
  | t :: ts => max (depT t) (depL ts)
end
theorem treeC_node (s : Int) (l : List Tr) : treeC (.node s l) = [.flat (.int .i64 s), treesD l] := by rw [treeC]
theorem treeD_node (s : Int) (l : List Tr) : treeD (.node s l) = .agg [.flat (.int .i64 s), treesD l] := by rw [treeD, treeC]
theorem kidsC_nil : kidsC [] = [] := by rw [kidsC]
theorem kidsC_cons (t : Tr) (ts : List Tr) : kidsC (t :: ts) = treeC t ++ kidsC ts := by rw [kidsC]
theorem TSm_node {s : Int} {l : List Tr} : TSm (.node s l) ↔ l.length * 32 ≤ 140737488351232 ∧ TSmL l := by rw [TSm]
theorem SymR_node {s : Int} {l : List Tr} : SymR (.node s l) ↔ (-9223372036854775808 ≤ s ∧ s ≤ 9223372036854775807) ∧ SymRL l := by rw [SymR]
theorem SymRL.at : ∀ {l : List Tr}, SymRL l → ∀ {i : Nat} {t : Tr}, l[i]? = some t → SymR t
  | [], _, i, t, h => by simp at h
  | x :: xs, hs, i, t, h => by
    rw [SymRL] at hs
    cases i with
    | zero => simp at h; subst h; exact hs.1
    | succ i => exact SymRL.at hs.2 (by simpa using h)
theorem SymRL.of : ∀ {l : List Tr}, (∀ (i : Nat) t, l[i]? = some t → SymR t) → SymRL l
  | [], _ => by rw [SymRL]; trivial
  | x :: xs, h => by
    rw [SymRL]
    exact ⟨h 0 x (by simp), SymRL.of fun i t hi => h (i + 1) t (by simpa using hi)⟩
theorem depT_node {s : Int} {l : List Tr} : depT (.node s l) = depL l + 1 := by rw [depT]
theorem TSmL.at : ∀ {l : List Tr}, TSmL l → ∀ {i : Nat} {t : Tr}, l[i]? = some t → TSm t
  | [], _, i, t, h => by simp at h
  | x :: xs, hs, i, t, h => by
    rw [TSmL] at hs
    cases i with
    | zero => simp at h; subst h; exact hs.1
    | succ i => exact TSmL.at hs.2 (by simpa using h)
theorem TSmL.of : ∀ {l : List Tr}, (∀ (i : Nat) t, l[i]? = some t → TSm t) → TSmL l
  | [], _ => by rw [TSmL]; trivial
  | x :: xs, h => by
    rw [TSmL]
    exact ⟨h 0 x (by simp), TSmL.of fun i t hi => h (i + 1) t (by simpa using hi)⟩
theorem depL_at : ∀ {l : List Tr} {i : Nat} {t : Tr}, l[i]? = some t → depT t ≤ depL l
  | [], i, t, h => by simp at h
  | x :: xs, i, t, h => by
    rw [depL]
    cases i with
    | zero => simp at h; subst h; omega
    | succ i => have := depL_at (l := xs) (i := i) (t := t) (by simpa using h); omega
theorem treeC_two (t : Tr) : (treeC t).length = 2 := by cases t with | node s l => rw [treeC]; rfl
theorem kidsC_len : ∀ l : List Tr, (kidsC l).length = l.length * 2
  | [] => by rw [kidsC]; rfl
  | t :: ts => by rw [kidsC, List.length_append, treeC_two, kidsC_len ts, List.length_cons]; omega
theorem kidsC_append : ∀ l r : List Tr, kidsC (l ++ r) = kidsC l ++ kidsC r
  | [], r => by rw [kidsC]; rfl
  | t :: ts, r => by rw [List.cons_append, kidsC, kidsC, kidsC_append ts r, List.append_assoc]
theorem kidsC_one (t : Tr) : kidsC [t] = treeC t := by rw [kidsC, kidsC, List.append_nil]
theorem kidsC_snoc {l : List Tr} {i : Nat} {t : Tr} (h : l[i]? = some t) : kidsC (l.take (i + 1)) = kidsC (l.take i) ++ treeC t := by
  rw [List.take_add_one, h, kidsC_append, Option.toList_some, kidsC_one]
theorem kidsC_snoc' (l : List Tr) (t : Tr) : kidsC (l ++ [t]) = kidsC l ++ treeC t := by rw [kidsC_append, kidsC_one]
theorem kidsC_drop : ∀ {l : List Tr} {i : Nat} {t : Tr}, l[i]? = some t → ((kidsC l).drop (i * 2)).take 2 = treeC t
  | [], i, t, h => by simp at h
  | x :: xs, i, t, h => by
    rw [kidsC]
    cases i with
    | zero =>
      simp at h; subst h
      rw [Nat.zero_mul, List.drop_zero, List.take_append_of_le_length (by rw [treeC_two]; omega), List.take_of_length_le (by rw [treeC_two]; omega)]
    | succ i =>
      rw [List.drop_append, List.drop_eq_nil_of_le (by rw [treeC_two]; omega), List.nil_append, treeC_two, show (i + 1) * 2 - 2 = i * 2 by omega]
      exact kidsC_drop (by simpa using h)
theorem part_kids {l : List Tr} {i : Nat} {t : Tr} (h : l[i]? = some t) : partD true 2 (i * 2) (kidsC l) = some (treeD t) := by
  have hi := (List.getElem?_eq_some_iff.1 h).1
  have h1 := kidsC_drop h
  have h2 := kidsC_len l
  simp only [partD, treeD]
  simp only [h1, treeC_two]
  first
    | rfl
    | (rw [if_pos (by omega)]; rfl)
    | (simp; omega)
    | simp
theorem treeC_pers (t : Tr) : persL (treeC t) = true := by cases t with | node s l => rw [treeC]; rfl
theorem kidsC_pers : ∀ l : List Tr, persL (kidsC l) = true
  | [] => by rw [kidsC]; rfl
  | t :: ts => by rw [kidsC]; exact persL_append (treeC_pers t) (kidsC_pers ts)
theorem treeD_pers (t : Tr) : pers (treeD t) = true := treeC_pers t
instance (l : List Tr) : PersL (kidsC l) := ⟨kidsC_pers l⟩
instance (t : Tr) : PersL (treeC t) := ⟨treeC_pers t⟩
instance (t : Tr) : PersD (treeD t) := ⟨treeD_pers t⟩
theorem oneL_app : ∀ {l r : List D}, oneL l = true → oneL r = true → oneL (l ++ r) = true
  | [], r, _, h => h
  | d :: ds, r, h1, h2 => by
    simp only [oneL, Bool.and_eq_true] at h1
    simp only [List.cons_append, oneL, Bool.and_eq_true]
    exact ⟨h1.1, oneL_app h1.2 h2⟩
theorem treeC_one (t : Tr) : oneL (treeC t) = true := by cases t with | node s l => rw [treeC]; rfl
theorem kidsC_oneL : ∀ l : List Tr, oneL (kidsC l) = true
  | [] => by rw [kidsC]; rfl
  | t :: ts => by rw [kidsC]; exact oneL_app (treeC_one t) (kidsC_oneL ts)
theorem repC_kids {M : Nat → Prop} {w : World} {b : Nat} : ∀ {l : List Tr} {off : Nat}, (∀ (i : Nat) t, l[i]? = some t → ∃ c0 c1, w.cell? ⟨b, off + i * 2, none⟩ = some c0 ∧ w.cell? ⟨b, off + i * 2 + 1, none⟩ = some c1 ∧ RepL M w none (treeC t) [c0, c1]) → RepC M w b off (kidsC l)
  | [], off, _ => by rw [kidsC]; simp only [RepC]
  | x :: xs, off, h => by
    rw [kidsC]
    obtain ⟨c0, c1, q0, q1, q2⟩ := h 0 x (by simp)
    have hr : RepC M w b (off + 2) (kidsC xs) := repC_kids fun i t hi => by
      obtain ⟨c0, c1, q0, q1, q2⟩ := h (i + 1) t (by simpa using hi)
      exact ⟨c0, c1, by rw [show off + 2 + i * 2 = off + (i + 1) * 2 by omega]; exact q0, by rw [show off + 2 + i * 2 + 1 = off + (i + 1) * 2 + 1 by omega]; exact q1, q2⟩
    cases x with
    | node s l =>
      rw [treeC] at q2 ⊢
      simp only [RepL, List.cons.injEq] at q2
      obtain ⟨u1, us1, ⟨rfl, rfl⟩, r1, u2, us2, ⟨rfl, rfl⟩, r2, -⟩ := q2
      simp only [List.cons_append, List.nil_append, RepC]
      exact ⟨⟨_, by simpa using q0, r1⟩, ⟨_, by simpa using q1, r2⟩, hr⟩
end Go.Rt

set_option linter.unusedSimpArgs false
set_option linter.unusedVariables false
namespace Go.Rt
open Go
/-- The trees of a size, where the list begins with those of size one. -/
def rowN (rows : List (List Tr)) (s : Nat) : List Tr := if s = 0 then [] else rows.getD (s - 1) []
/-- Trees with two children of these sizes. -/
def pairsT (s : Int) (l r : List Tr) : List Tr := l.flatMap fun x => r.map fun y => .node s [x, y]
/-- The trees of a size with this symbol. -/
def candS (rows : List (List Tr)) (size : Nat) (s : Nat) (n : Int) : List Tr :=
  if n = 0 then (if size = 1 then [.node s []] else [])
  else if n = 1 then (rowN rows (size - 1)).map fun x => .node s [x]
  else (List.range (size - 2)).flatMap fun k => pairsT s (rowN rows (k + 1)) (rowN rows (size - 1 - (k + 1)))
/-- Not too deep. -/
def shallow (t : Tr) : Bool := decide (deepW t ≤ 256)
def candA (rows : List (List Tr)) (size : Nat) (i : Nat) : List Int → List Tr
  | [] => []
  | n :: a => (candS rows size i n).filter shallow ++ candA rows size (i + 1) a
def rowsU (a : List Int) : Nat → List (List Tr)
  | 0 => []
  | k + 1 => rowsU a k ++ [candA (rowsU a k) (k + 1) 0 a]
theorem rowsU_len (a : List Int) : ∀ k, (rowsU a k).length = k
  | 0 => rfl
  | k + 1 => by rw [rowsU, List.length_append, rowsU_len a k]; rfl
/-- What is yielded behind l, as long as go says so. -/
def feed (go : List Tr → Bool) : List Tr → List Tr → List Tr × Bool
  | l, [] => (l, true)
  | l, t :: c => if go (l ++ [t]) then feed go (l ++ [t]) c else (l ++ [t], false)
theorem feed_nil {go : List Tr → Bool} {l : List Tr} : feed go l [] = (l, true) := rfl
theorem feed_cons {go : List Tr → Bool} {l c : List Tr} {t : Tr} : feed go l (t :: c) = if go (l ++ [t]) then feed go (l ++ [t]) c else (l ++ [t], false) := rfl
theorem feed_append {go : List Tr → Bool} : ∀ {c l d : List Tr}, feed go l (c ++ d) = if (feed go l c).2 = true then feed go (feed go l c).1 d else feed go l c
  | [], l, d => rfl
  | t :: c, l, d => by
    rw [List.cons_append, feed_cons, feed_cons]
    by_cases h : go (l ++ [t]) = true
    · rw [if_pos h, if_pos h]; exact feed_append
    · rw [if_neg h, if_neg h]; rfl
theorem feed_true {go : List Tr → Bool} : ∀ {c l : List Tr}, (feed go l c).2 = true → (feed go l c).1 = l ++ c
  | [], l, _ => by rw [List.append_nil]; rfl
  | t :: c, l, h => by
    rw [feed_cons] at h ⊢
    by_cases hg : go (l ++ [t]) = true
    · rw [if_pos hg] at h ⊢
      rw [feed_true h, List.append_assoc]; rfl
    · rw [if_neg hg] at h; cases h
/-- What is yielded begins with l and goes on with trees of c. -/
theorem feed_pre {go : List Tr → Bool} : ∀ {c l : List Tr}, ∃ k, k ≤ c.length ∧ (feed go l c).1 = l ++ c.take k
  | [], l => ⟨0, Nat.le_refl _, by rw [List.take_nil, List.append_nil]; rfl⟩
  | t :: c, l => by
    rw [feed_cons]
    by_cases hg : go (l ++ [t]) = true
    · rw [if_pos hg]
      obtain ⟨k, h1, h2⟩ := feed_pre (go := go) (c := c) (l := l ++ [t])
      exact ⟨k + 1, Nat.succ_le_succ h1, by rw [h2, List.append_assoc]; rfl⟩
    · rw [if_neg hg]
      exact ⟨1, Nat.succ_le_succ (Nat.zero_le _), by simp⟩
end Go.Rt

set_option linter.unusedSimpArgs false
set_option linter.unusedVariables false
namespace Go.Rt
open Go
theorem cmpI_self (a : Int) : cmpI a a = 0 := by unfold cmpI; rw [if_neg (by omega), if_neg (by omega)]
theorem cmpI_swap (a b : Int) : cmpI b a = - cmpI a b := by
  unfold cmpI
  rcases Int.lt_trichotomy a b with h | h | h
  · rw [if_neg (by omega), if_pos (by omega), if_pos h]; rfl
  · subst h; rw [if_neg (by omega), if_neg (by omega)]; rfl
  · rw [if_pos h, if_neg (by omega), if_pos (by omega)]
theorem cmpI_lt {a b : Int} : cmpI a b < 0 ↔ a < b := by
  unfold cmpI
  split
  · constructor <;> intro h <;> omega
  · split
    · constructor <;> intro h <;> omega
    · constructor <;> intro h <;> omega
theorem cmpI_zero {a b : Int} : cmpI a b = 0 ↔ a = b := by
  unfold cmpI
  split
  · constructor <;> intro h <;> omega
  · split
    · constructor <;> intro h <;> omega
    · constructor <;> intro h <;> omega
theorem cmpI_rng (a b : Int) : cmpI a b = -1 ∨ cmpI a b = 0 ∨ cmpI a b = 1 := by
  unfold cmpI
  split
  · exact .inl rfl
  · split
    · exact .inr (.inr rfl)
    · exact .inr (.inl rfl)
theorem sizeW_node (s : Int) (l : List Tr) : sizeW (.node s l) = sizeL 1 l := by rw [sizeW]
theorem cmpT_node (s s' : Int) (l l' : List Tr) : cmpT (.node s l) (.node s' l') = if cmpI (sizeL 1 l) (sizeL 1 l') ≠ 0 then cmpI (sizeL 1 l) (sizeL 1 l') else if cmpI s s' ≠ 0 then cmpI s s' else if cmpI l.length l'.length ≠ 0 then cmpI l.length l'.length else cmpL l l' := by rw [cmpT]
theorem cmpL_cons (t u : Tr) (ts us : List Tr) : cmpL (t :: ts) (u :: us) = if cmpT t u ≠ 0 then cmpT t u else cmpL ts us := by rw [cmpL]
theorem cmpL_nil (us : List Tr) : cmpL [] us = 0 := by rw [cmpL]; rintro t ts u us h; cases h
theorem cmpL_nil2 (ts : List Tr) : cmpL ts [] = 0 := by rw [cmpL]; rintro t ts u us _ h; cases h
mutual
theorem cmpT_swap : ∀ t u : Tr, cmpT u t = - cmpT t u
  | .node s l, .node s' l' => by
    rw [cmpT_node, cmpT_node, cmpI_swap (sizeL 1 l) (sizeL 1 l'), cmpI_swap s s', cmpI_swap l.length l'.length, cmpL_swap l l']
    by_cases h1 : cmpI (sizeL 1 l) (sizeL 1 l') = 0
    · by_cases h2 : cmpI s s' = 0
      · by_cases h3 : cmpI l.length l'.length = 0
        · simp [h1, h2, h3]
        · simp [h1, h2, h3]
      · simp [h1, h2]
    · simp [h1]
theorem cmpL_swap : ∀ l l' : List Tr, cmpL l' l = - cmpL l l'
  | [], l' => by rw [cmpL_nil2, cmpL_nil]; rfl
  | t :: ts, [] => by rw [cmpL_nil2, cmpL_nil]; rfl
  | t :: ts, u :: us => by
    rw [cmpL_cons, cmpL_cons, cmpT_swap t u, cmpL_swap ts us]
    by_cases h : cmpT t u = 0
    · simp [h]
    · simp [h]
end
mutual
theorem cmpT_self : ∀ t : Tr, cmpT t t = 0
  | .node s l => by rw [cmpT_node, cmpI_self, cmpI_self, cmpI_self]; simp [cmpL_self l]
theorem cmpL_self : ∀ l : List Tr, cmpL l l = 0
  | [] => cmpL_nil _
  | t :: ts => by rw [cmpL_cons, cmpT_self t]; simp [cmpL_self ts]
end
mutual
theorem cmpT_eq : ∀ t u : Tr, cmpT t u = 0 → t = u
  | .node s l, .node s' l', h => by
    rw [cmpT_node] at h
    by_cases h1 : cmpI (sizeL 1 l) (sizeL 1 l') = 0
    · by_cases h2 : cmpI s s' = 0
      · by_cases h3 : cmpI l.length l'.length = 0
        · simp only [h1, h2, h3, ne_eq, not_true_eq_false, if_false] at h
          have h3 := cmpI_zero.1 h3
          rw [cmpI_zero.1 h2, cmpL_eq l l' (by omega) h]
        · simp [h1, h2, h3] at h
      · simp [h1, h2] at h
    · simp [h1] at h
theorem cmpL_eq : ∀ l l' : List Tr, l.length = l'.length → cmpL l l' = 0 → l = l'
  | [], [], _, _ => rfl
  | [], _ :: _, h, _ => by cases h
  | _ :: _, [], h, _ => by cases h
  | t :: ts, u :: us, hl, h => by
    rw [cmpL_cons] at h
    by_cases h1 : cmpT t u = 0
    · simp only [h1, ne_eq, not_true_eq_false, if_false] at h
      rw [cmpT_eq t u h1, cmpL_eq ts us (by simpa using hl) h]
    · simp [h1] at h
end
theorem cmpT_lt {s s' : Int} {l l' : List Tr} : cmpT (.node s l) (.node s' l') < 0 ↔ sizeL 1 l < sizeL 1 l' ∨ (sizeL 1 l = sizeL 1 l' ∧ (s < s' ∨ (s = s' ∧ (l.length < l'.length ∨ (l.length = l'.length ∧ cmpL l l' < 0))))) := by
  rw [cmpT_node]
  by_cases h1 : cmpI (sizeL 1 l) (sizeL 1 l') = 0
  · have e1 := cmpI_zero.1 h1
    by_cases h2 : cmpI s s' = 0
    · have e2 := cmpI_zero.1 h2
      by_cases h3 : cmpI l.length l'.length = 0
      · have e3 := cmpI_zero.1 h3
        simp only [h1, h2, h3, ne_eq, not_true_eq_false, if_false]
        omega
      · have e3 := mt cmpI_zero.2 h3
        simp only [h1, h2, h3, ne_eq, not_true_eq_false, if_false, not_false_eq_true, if_true]
        rw [cmpI_lt]
        omega
    · have e2 := mt cmpI_zero.2 h2
      simp only [h1, h2, ne_eq, not_true_eq_false, if_false, not_false_eq_true, if_true]
      rw [cmpI_lt]
      omega
  · have e1 := mt cmpI_zero.2 h1
    simp only [h1, ne_eq, not_false_eq_true, if_true]
    rw [cmpI_lt]
    omega
theorem cmpL_lt {t u : Tr} {ts us : List Tr} : cmpL (t :: ts) (u :: us) < 0 ↔ cmpT t u < 0 ∨ (t = u ∧ cmpL ts us < 0) := by
  rw [cmpL_cons]
  by_cases h : cmpT t u = 0
  · have e := cmpT_eq t u h
    subst e
    simp [h]
  · have e : t ≠ u := fun e => h (by rw [e]; exact cmpT_self u)
    simp [h, e]
mutual
theorem cmpT_trans : ∀ t u v : Tr, cmpT t u < 0 → cmpT u v < 0 → cmpT t v < 0
  | .node s l, .node s' l', .node s2 l2, h1, h2 => by
    rw [cmpT_lt] at h1 h2 ⊢
    have ih := cmpL_trans l l' l2
    omega
theorem cmpL_trans : ∀ l l' l2 : List Tr, l.length = l'.length → l'.length = l2.length → cmpL l l' < 0 → cmpL l' l2 < 0 → cmpL l l2 < 0
  | [], l', l2, _, _, h, _ => by rw [cmpL_nil] at h; omega
  | t :: ts, [], _, h, _, _, _ => by cases h
  | _ :: _, _ :: _, [], _, h, _, _ => by cases h
  | t :: ts, u :: us, v :: vs, e1, e2, h1, h2 => by
    rw [cmpL_lt] at h1 h2 ⊢
    rcases h1 with h1 | ⟨rfl, h1⟩
    · rcases h2 with h2 | ⟨rfl, h2⟩
      · exact .inl (cmpT_trans t u v h1 h2)
      · exact .inl h1
    · rcases h2 with h2 | ⟨rfl, h2⟩
      · exact .inl h2
      · exact .inr ⟨rfl, cmpL_trans ts us vs (by simpa using e1) (by simpa using e2) h1 h2⟩
end
/-- Not above, and not above: not above. -/
theorem cmpT_le_trans {t u v : Tr} (h1 : cmpT t u ≤ 0) (h2 : cmpT u v ≤ 0) : cmpT t v ≤ 0 := by
  by_cases e1 : cmpT t u = 0
  · rw [cmpT_eq _ _ e1]; exact h2
  · by_cases e2 : cmpT u v = 0
    · rw [← cmpT_eq _ _ e2]; exact h1
    · have := cmpT_trans t u v (by omega) (by omega)
      omega
theorem cmpT_ge_trans {t u v : Tr} (h1 : 0 ≤ cmpT t u) (h2 : 0 ≤ cmpT u v) : 0 ≤ cmpT t v := by
  have a := cmpT_swap t u
  have b := cmpT_swap u v
  have c := cmpT_swap t v
  have := cmpT_le_trans (t := v) (u := u) (v := t) (by omega) (by omega)
  omega
/-! true sizes -/
mutual
def sizeT : Tr → Nat
  | .node _ l => sizeTL l + 1
def sizeTL : List Tr → Nat
  | [] => 0
  | t :: ts => sizeT t + sizeTL ts
end
theorem sizeT_node (s : Int) (l : List Tr) : sizeT (.node s l) = sizeTL l + 1 := by rw [sizeT]
theorem sizeTL_cons (t : Tr) (ts : List Tr) : sizeTL (t :: ts) = sizeT t + sizeTL ts := by rw [sizeTL]
theorem sizeTL_nil : sizeTL [] = 0 := by rw [sizeTL]
theorem sizeT_pos (t : Tr) : 0 < sizeT t := by cases t; rw [sizeT]; omega
theorem sizeTL_at : ∀ {l : List Tr} {i : Nat} {t : Tr}, l[i]? = some t → sizeT t ≤ sizeTL l
  | [], i, t, h => by simp at h
  | x :: xs, i, t, h => by
    rw [sizeTL]
    cases i with
    | zero => simp at h; subst h; omega
    | succ i => have := sizeTL_at (l := xs) (i := i) (t := t) (by simpa using h); omega
theorem w64i_in {a : Int} (h1 : -9223372036854775808 ≤ a) (h2 : a ≤ 9223372036854775807) : w64i a = a := by unfold w64i; rw [IntKind.wrap_i64]; omega
mutual
/-- Where the tree is small the program counts right. -/
theorem sizeW_eq : ∀ t : Tr, sizeT t ≤ 4611686018427387904 → sizeW t = sizeT t
  | .node s l, h => by
    rw [sizeT_node] at h
    rw [sizeW_node, sizeT_node, sizeL_eq l 1 (by omega) (by omega) (by omega)]
    omega
theorem sizeL_eq : ∀ (l : List Tr) (n : Int), 0 ≤ n → n + sizeTL l ≤ 4611686018427387905 → sizeTL l ≤ 4611686018427387904 → sizeL n l = n + sizeTL l
  | [], n, _, _, _ => by rw [sizeL, sizeTL]; omega
  | t :: ts, n, h0, h, h2 => by
    rw [sizeTL] at h h2 ⊢
    rw [sizeL, sizeW_eq t (by omega), w64i_in (by omega) (by omega), sizeL_eq ts _ (by omega) (by omega) (by omega)]
    omega
end
/-- A proper subtree comes before the tree. -/
theorem cmpT_kid {s : Int} {l : List Tr} {i : Nat} {x : Tr} (h : l[i]? = some x) (hs : sizeT (.node s l) ≤ 4611686018427387904) : cmpT x (.node s l) < 0 := by
  have h1 := sizeW_eq _ hs
  have h2 := sizeTL_at h
  rw [sizeT_node] at hs
  rw [sizeW_node, sizeT_node] at h1
  have h3 := sizeW_eq x (by omega)
  cases x with
  | node s' l' =>
    rw [cmpT_lt]
    rw [sizeW_node] at h3
    exact .inl (by omega)
end Go.Rt
