/- The map of rows of trees, over data. No condition. -/
import Derived.Test.YtohjapcafkhabaaDoorYC2
import Derived.Test.YtohjapcafkhabaaDoorYTE
import Derived.Maps.Keyed

set_option linter.unusedSimpArgs false
set_option linter.unusedVariables false
set_option maxHeartbeats 4000000
set_option maxRecDepth 8000
namespace Go.Proofs.YtohjapcafkhabaaDoor
open Go Go.RowKit Go.PP Go.Dm Go.Rt
abbrev kI (s : Nat) : Value := .int .i64 (s : Nat)
def keysR : Nat → List (List Tr) → List Value
  | _, [] => []
  | i, [] :: rs => keysR (i + 1) rs
  | i, (_ :: _) :: rs => kI i :: keysR (i + 1) rs
def valsR : List (List Tr) → List D
  | [] => []
  | [] :: rs => valsR rs
  | (t :: ts) :: rs => treesD (t :: ts) :: valsR rs
def mapK (rows : List (List Tr)) (size : Nat) : List Tr → List Value
  | [] => keysR 1 rows
  | _ :: _ => keysR 1 rows ++ [kI size]
def mapV (rows : List (List Tr)) (rid : Nat) : List Tr → List D
  | [] => valsR rows
  | t :: ts => valsR rows ++ [.own rid (t :: ts).length]
theorem keysR_at : ∀ (rows : List (List Tr)) (i m : Nat) (r : List Tr), rows[m]? = some r → r ≠ [] → ∃ k : Nat, (keysR i rows)[k]? = some (kI (i + m)) ∧ (valsR rows)[k]? = some (treesD r)
  | [], i, m, r, h, _ => by simp at h
  | [] :: rs, i, 0, r, h, hr => by simp at h; exact absurd h hr
  | (t :: ts) :: rs, i, 0, r, h, hr => by
    simp at h; subst h
    exact ⟨0, rfl, rfl⟩
  | [] :: rs, i, m + 1, r, h, hr => by
    obtain ⟨k, h1, h2⟩ := keysR_at rs (i + 1) m r (by simpa using h) hr
    exact ⟨k, by rw [keysR, h1, show i + 1 + m = i + (m + 1) by omega], by rw [valsR, h2]⟩
  | (t :: ts) :: rs, i, m + 1, r, h, hr => by
    obtain ⟨k, h1, h2⟩ := keysR_at rs (i + 1) m r (by simpa using h) hr
    exact ⟨k + 1, by rw [keysR, List.getElem?_cons_succ, h1, show i + 1 + m = i + (m + 1) by omega], by rw [valsR, List.getElem?_cons_succ, h2]⟩
theorem keysR_mem : ∀ (rows : List (List Tr)) (i : Nat) (v : Value), v ∈ keysR i rows → ∃ m r, rows[m]? = some r ∧ r ≠ [] ∧ v = kI (i + m)
  | [], i, v, h => by rw [keysR] at h; cases h
  | [] :: rs, i, v, h => by
    rw [keysR] at h
    obtain ⟨m, r, h1, h2, h3⟩ := keysR_mem rs (i + 1) v h
    exact ⟨m + 1, r, by simpa using h1, h2, by rw [h3, show i + 1 + m = i + (m + 1) by omega]⟩
  | (t :: ts) :: rs, i, v, h => by
    rw [keysR] at h
    rcases List.mem_cons.1 h with h | h
    · exact ⟨0, _, rfl, by simp, h⟩
    · obtain ⟨m, r, h1, h2, h3⟩ := keysR_mem rs (i + 1) v h
      exact ⟨m + 1, r, by simpa using h1, h2, by rw [h3, show i + 1 + m = i + (m + 1) by omega]⟩
theorem kI_inj {a b : Nat} (h : kI a = kI b) : a = b := by
  injection h with _ h
  omega
theorem keysR_nd : ∀ (rows : List (List Tr)) (i : Nat), (keysR i rows).Nodup
  | [], i => by rw [keysR]; exact List.nodup_nil
  | [] :: rs, i => by rw [keysR]; exact keysR_nd rs (i + 1)
  | (t :: ts) :: rs, i => by
    rw [keysR]
    refine List.nodup_cons.2 ⟨fun h => ?_, keysR_nd rs (i + 1)⟩
    obtain ⟨m, r, _, _, h3⟩ := keysR_mem rs (i + 1) _ h
    have := kI_inj h3
    omega
theorem keysR_len : ∀ (rows : List (List Tr)) (i : Nat), (keysR i rows).length = (valsR rows).length
  | [], i => by rw [keysR, valsR]; rfl
  | [] :: rs, i => by rw [keysR, valsR]; exact keysR_len rs (i + 1)
  | (t :: ts) :: rs, i => by rw [keysR, valsR, List.length_cons, List.length_cons, keysR_len rs (i + 1)]
theorem valsR_pers : ∀ rows : List (List Tr), persL (valsR rows) = true
  | [] => by rw [valsR]; rfl
  | [] :: rs => by rw [valsR]; exact valsR_pers rs
  | (t :: ts) :: rs => by rw [valsR, persL, valsR_pers rs]; rfl
theorem kI_lit {s : Nat} (h : s ≤ 1000000) : ∃ l, keyOf Tryd.prog 3 (kI s) = some l :=
  ⟨_, Maps.keyOf_int_mk (q := .i64) (by kernel_rfl) (by simp [Lit.wf, IntKind.min, IntKind.max, IntKind.signed, IntKind.bits]; omega)⟩
theorem int_law : Maps.Keyed Tryd.prog 3 := Maps.int_keyed (q := .i64) (by kernel_rfl)
theorem keysR_ok (rows : List (List Tr)) (h : rows.length ≤ 5000) : KeysOk Tryd.prog 3 (keysR 1 rows) := ⟨int_law, fun k hk => by
  obtain ⟨m, r, h1, _, h3⟩ := keysR_mem rows 1 k hk
  have := (List.getElem?_eq_some_iff.1 h1).1
  rw [h3]
  exact kI_lit (by omega), keysR_nd rows 1⟩
theorem keysR_no {rows : List (List Tr)} {s : Nat} (h : rowN rows s = []) (hs : s ≤ rows.length) : kI s ∉ keysR 1 rows := fun hm => by
  obtain ⟨m, r, h1, h2, h3⟩ := keysR_mem rows 1 _ hm
  have := kI_inj h3
  subst this
  unfold rowN at h
  rw [if_neg (by omega), show 1 + m - 1 = m by omega, List.getD_eq_getElem?_getD, h1] at h
  exact h2 h
theorem keysR_new {rows : List (List Tr)} {s : Nat} (hs : rows.length < s) : kI s ∉ keysR 1 rows := fun hm => by
  obtain ⟨m, r, h1, h2, h3⟩ := keysR_mem rows 1 _ hm
  have := kI_inj h3
  have := (List.getElem?_eq_some_iff.1 h1).1
  omega
/-- The current row is not in the map. -/
theorem look_new (rows : List (List Tr)) (h : rows.length ≤ 5000) : LookN Tryd.prog 3 (mapK rows (rows.length + 1) []) (kI (rows.length + 1)) :=
  ⟨keysR_ok rows h, kI_lit (by omega), keysR_new (by omega)⟩
theorem mapK_ok (rows : List (List Tr)) (h : rows.length ≤ 5000) (cur : List Tr) : KeysOk Tryd.prog 3 (mapK rows (rows.length + 1) cur) := by
  cases cur with
  | nil => exact keysR_ok rows h
  | cons t ts => exact (look_new rows h).snoc
theorem look_cur (rows : List (List Tr)) (h : rows.length ≤ 5000) (rid : Nat) (t : Tr) (ts : List Tr) : LookT Tryd.prog 3 (mapK rows (rows.length + 1) (t :: ts)) (kI (rows.length + 1)) (keysR 1 rows).length ∧ (mapV rows rid (t :: ts))[(keysR 1 rows).length]? = some (.own rid (t :: ts).length) := by
  refine ⟨⟨mapK_ok rows h _, ?_⟩, ?_⟩
  · rw [mapK, List.getElem?_append_right (Nat.le_refl _), Nat.sub_self]; rfl
  · rw [keysR_len, mapV, List.getElem?_append_right (Nat.le_refl _), Nat.sub_self]; rfl
theorem look_no (rows : List (List Tr)) (h : rows.length ≤ 5000) (cur : List Tr) {s : Nat} (hs : s ≤ rows.length) (h0 : rowN rows s = []) : LookN Tryd.prog 3 (mapK rows (rows.length + 1) cur) (kI s) := by
  refine ⟨mapK_ok rows h cur, kI_lit (by omega), ?_⟩
  cases cur with
  | nil => exact keysR_no h0 hs
  | cons t ts =>
    intro hm
    rcases List.mem_append.1 hm with hm | hm
    · exact keysR_no h0 hs hm
    · have := kI_inj (List.mem_singleton.1 hm)
      omega
theorem look_row (rows : List (List Tr)) (h : rows.length ≤ 5000) (rid : Nat) (cur : List Tr) {s : Nat} (hs : s ≤ rows.length) (h0 : rowN rows s ≠ []) : ∃ i : Nat, LookT Tryd.prog 3 (mapK rows (rows.length + 1) cur) (kI s) i ∧ (mapV rows rid cur)[i]? = some (treesD (rowN rows s)) := by
  have hs0 : s ≠ 0 := fun e => h0 (by unfold rowN; rw [if_pos e])
  obtain ⟨m, rfl⟩ : ∃ m, s = 1 + m := ⟨s - 1, by omega⟩
  obtain ⟨r, hr⟩ : ∃ r, rows[m]? = some r := ⟨_, List.getElem?_eq_getElem (by omega)⟩
  have e : rowN rows (1 + m) = r := by
    unfold rowN
    rw [if_neg (by omega), show 1 + m - 1 = m by omega, List.getD_eq_getElem?_getD, hr]; rfl
  rw [e] at h0 ⊢
  obtain ⟨k, h1, h2⟩ := keysR_at rows 1 m r hr h0
  refine ⟨k, ⟨mapK_ok rows h cur, ?_⟩, ?_⟩
  · cases cur with
    | nil => exact h1
    | cons t ts => rw [mapK, List.getElem?_append_left (List.getElem?_eq_some_iff.1 h1).1, h1]
  · cases cur with
    | nil => exact h2
    | cons t ts => rw [mapV, List.getElem?_append_left (List.getElem?_eq_some_iff.1 h2).1, h2]
theorem mapV_snoc0 (rows : List (List Tr)) (rid : Nat) (t : Tr) : valsR rows ++ [.own rid 1] = mapV rows rid [t] := rfl
theorem mapV_set (rows : List (List Tr)) (rid : Nat) (t u : Tr) (ts : List Tr) : (mapV rows rid (t :: ts)).set (keysR 1 rows).length (.own rid ((t :: ts).length + 1)) = mapV rows rid (t :: ts ++ [u]) := by
  rw [mapV, List.set_append_right _ _ (by rw [keysR_len]; exact Nat.le_refl _), keysR_len, Nat.sub_self]
  show _ = valsR rows ++ [.own rid (t :: (ts ++ [u])).length]
  congr 2
  simp
theorem mapK_more (rows : List (List Tr)) (size : Nat) (t u : Tr) (ts : List Tr) : mapK rows size (t :: ts ++ [u]) = mapK rows size (t :: ts) := rfl
/-- The row of the size that is done goes to the others. -/
theorem keysR_snoc : ∀ (rows : List (List Tr)) (i : Nat) (cur : List Tr), keysR i (rows ++ [cur]) = match cur with
    | [] => keysR i rows
    | _ :: _ => keysR i rows ++ [kI (i + rows.length)]
  | [], i, [] => rfl
  | [], i, t :: ts => rfl
  | [] :: rs, i, cur => by
    rw [List.cons_append, keysR, keysR_snoc rs (i + 1) cur]
    cases cur with
    | nil => rw [keysR]
    | cons t ts => simp only [keysR]; rw [show i + 1 + rs.length = i + ([] :: rs).length by rw [List.length_cons]; omega]
  | (u :: us) :: rs, i, cur => by
    rw [List.cons_append, keysR, keysR_snoc rs (i + 1) cur]
    cases cur with
    | nil => rw [keysR]
    | cons t ts => simp only [keysR]; rw [List.cons_append, show i + 1 + rs.length = i + ((u :: us) :: rs).length by rw [List.length_cons]; omega]
theorem valsR_snoc : ∀ (rows : List (List Tr)) (cur : List Tr), valsR (rows ++ [cur]) = match cur with
    | [] => valsR rows
    | t :: ts => valsR rows ++ [treesD (t :: ts)]
  | [], [] => rfl
  | [], t :: ts => rfl
  | [] :: rs, cur => by
    rw [List.cons_append, valsR, valsR_snoc rs cur]
    cases cur with
    | nil => rw [valsR]
    | cons t ts => simp only [valsR]
  | (u :: us) :: rs, cur => by
    rw [List.cons_append, valsR, valsR_snoc rs cur]
    cases cur with
    | nil => rw [valsR]
    | cons t ts => simp only [valsR]; rw [List.cons_append]
theorem mapK_done (rows : List (List Tr)) (cur : List Tr) : mapK rows (rows.length + 1) cur = mapK (rows ++ [cur]) (rows.length + 1 + 1) [] := by
  show _ = keysR 1 (rows ++ [cur])
  rw [keysR_snoc]
  cases cur with
  | nil => rfl
  | cons t ts => simp only [mapK]; rw [Nat.add_comm 1]
theorem VlL.app {lp : Sg} : ∀ {a b : List D}, VlL lp a a → VlL lp b b → VlL lp (a ++ b) (a ++ b)
  | [], b, _, h => h
  | d :: ds, b, h1, h2 => ⟨h1.1, VlL.app h1.2 h2⟩
theorem VsL.app {σ σ' : Sg} : ∀ {a a' b b' : List D}, VsL σ σ' a a' → VsL σ σ' b b' → VsL σ σ' (a ++ b) (a' ++ b')
  | [], [], b, b', _, h => h
  | d :: ds, e :: es, b, b', h1, h2 => ⟨h1.1, VsL.app h1.2 h2⟩
  | [], _ :: _, _, _, h, _ => h.elim
  | _ :: _, [], _, _, h, _ => h.elim
theorem Vl.keys {lp : Sg} (ks : List Value) : Vl lp (.keys ks) (.keys ks) := fun _ _ _ _ _ _ _ _ => by simp only [Rep]
theorem Vs.keys {σ σ' : Sg} (ks ks' : List Value) : Vs σ σ' (.keys ks) (.keys ks') := fun _ _ _ _ _ _ _ _ _ _ _ _ => by simp only [Rep]
theorem mpc (ks : List Value) (rows : List (List Tr)) (rid : Nat) (cur : List Tr) : MpC (.keys ks :: mapV rows rid cur) rid (.row 29 2 cur.length (kidsC cur)) where
  vl lp h := by
    refine ⟨Vl.keys ks, ?_⟩
    cases cur with
    | nil => exact VlL.pers (valsR_pers rows)
    | cons t ts => exact VlL.app (VlL.pers (valsR_pers rows)) ⟨Vl.own h, trivial⟩
  vs σ σ' h h' := by
    refine ⟨Vs.keys ks ks, ?_⟩
    cases cur with
    | nil => exact VsL.pers (valsR_pers rows)
    | cons t ts => exact VsL.app (VsL.pers (valsR_pers rows)) ⟨Vs.own h h', trivial⟩
end Go.Proofs.YtohjapcafkhabaaDoor
