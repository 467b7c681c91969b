/- Contract of keep at the closure of Split. Condition: a partition in memory. -/
import Derived.Test.YtojfpobgncapjaaWg
import Derived.DeepKeys4
set_option linter.unusedSimpArgs false
set_option linter.unusedVariables false
set_option maxHeartbeats 400000
namespace Go.Proofs.Ytojfpobgncapjaa
open Go Go.RowKit Go.PP

theorem types_size : Try.prog.types.size = 98 := by kernel_rfl
theorem cells3 : Try.prog.cellsOf 3 = 1 := by kernel_rfl
theorem cells80 : Try.prog.cellsOf 80 = 2 := by kernel_rfl
theorem keyType80 : Try.prog.keyType 80 = true := by kernel_rfl

theorem lits80 (d : Nat) {a b : Int} (ha : (Lit.int .i64 a).wf = true) (hb : (Lit.int .i64 b).wf = true) : Try.prog.keyLits (d + 2) 80 [.int .i64 a, .int .i64 b] = some [.int .i64 a, .int .i64 b] := by
  unfold Program.keyLits
  simp only [Try.underlying80]
  simp [cells80, cells3, Program.keyLits, Try.underlying3, ha, hb]

theorem key80 {a b : Int} (ha : (Lit.int .i64 a).wf = true) (hb : (Lit.int .i64 b).wf = true) : keyOf Try.prog 80 (.agg #[.int .i64 a, .int .i64 b]) = some (.string (keyBytes [.int .i64 a, .int .i64 b])) := by
  have h := lits80 97 ha hb
  unfold keyOf
  rw [Try.underlying80]
  simp only [keyType80, types_size, Value.formed, Try.underlying80, cells80, Value.cells, Bool.true_and]
  rw [if_pos (by simp), show (98 + 1 : Nat) = 97 + 2 from rfl, h]
  rfl

noncomputable def E80 : KeyEnc Try.prog 80 (Int × Int) where
  enc x := .agg #[.int .i64 x.1, .int .i64 x.2]
  ok x := (Lit.int .i64 x.1).wf = true ∧ (Lit.int .i64 x.2).wf = true
  lit x := .string (keyBytes [.int .i64 x.1, .int .i64 x.2])
  law := Maps.Keyed.of_law (deep_law_laid (by kernel_rfl) (m := 2) (by decide) (by rw [types_size]; decide) (by kernel_rfl) (by kernel_rfl))
  key x hx := key80 hx.1 hx.2
  inj x y _ _ h := by
    simp at h
    exact Prod.ext h.1 h.2

/-! ### keep -/
def keyMap (R V : List Int) : Nat → Int × Int → Option Int
  | 0 => fun _ => none
  | k + 1 => fun x => match keyMap R V k x with
    | some c => some c
    | none => if R[k]? = some x.1 ∧ V[k]? = some x.2 then some (k : Int) else none

theorem keyMap_some {R V : List Int} : ∀ {k : Nat} {x : Int × Int} {c : Int}, keyMap R V k x = some c → ∃ i : Nat, c = i ∧ i < k ∧ R[i]? = some x.1 ∧ V[i]? = some x.2 ∧ ∀ j : Nat, j < i → ¬ (R[j]? = some x.1 ∧ V[j]? = some x.2)
  | 0, x, c, h => by simp [keyMap] at h
  | k + 1, x, c, h => by
    have hnone : ∀ {k : Nat}, keyMap R V k x = none → ∀ j : Nat, j < k → ¬ (R[j]? = some x.1 ∧ V[j]? = some x.2) := by
      intro k
      induction k with
      | zero => intro _ j hj; omega
      | succ k ih =>
        intro hk j hj
        simp only [keyMap] at hk
        cases h0 : keyMap R V k x with
        | some c => rw [h0] at hk; cases hk
        | none =>
          rw [h0] at hk
          simp only at hk
          split at hk
          · cases hk
          · rename_i hno
            rcases Nat.lt_or_ge j k with e | e
            · exact ih h0 j e
            · obtain rfl : j = k := by omega
              exact hno
    simp only [keyMap] at h
    cases h0 : keyMap R V k x with
    | some c' =>
      rw [h0] at h
      cases h
      obtain ⟨i, h1, h2, h3⟩ := keyMap_some h0
      exact ⟨i, h1, by omega, h3⟩
    | none =>
      rw [h0] at h
      simp only at h
      split at h
      · rename_i hyes
        cases h
        exact ⟨k, rfl, by omega, hyes.1, hyes.2, hnone h0⟩
      · cases h

theorem keyMap_none {R V : List Int} : ∀ {k : Nat} {x : Int × Int}, keyMap R V k x = none → ∀ j : Nat, j < k → ¬ (R[j]? = some x.1 ∧ V[j]? = some x.2)
  | 0, x, h, j, hj => by omega
  | k + 1, x, h, j, hj => by
    simp only [keyMap] at h
    cases h0 : keyMap R V k x with
    | some c => rw [h0] at h; cases h
    | none =>
      rw [h0] at h
      simp only at h
      split at h
      · cases h
      · rename_i hno
        rcases Nat.lt_or_ge j k with e | e
        · exact keyMap_none h0 j e
        · obtain rfl : j = k := by omega
          exact hno

theorem keyMap_new {R V : List Int} {k : Nat} {x : Int × Int} (hr : R[k]? = some x.1) (hv : V[k]? = some x.2) (h : keyMap R V k x = none) : (fun y => if y = x then some (k : Int) else keyMap R V k y) = keyMap R V (k + 1) := by
  funext y
  simp only [keyMap]
  by_cases e : y = x
  · subst e; rw [if_pos rfl, h]; simp [hr, hv]
  · rw [if_neg e]
    cases h0 : keyMap R V k y with
    | some c => rfl
    | none =>
      simp only
      rw [if_neg]
      rw [hr, hv]
      intro ⟨h1, h2⟩
      exact e (Prod.ext (Option.some.inj h1).symm (Option.some.inj h2).symm)

theorem keyMap_old {R V : List Int} {k : Nat} {x : Int × Int} {c : Int} (hr : R[k]? = some x.1) (hv : V[k]? = some x.2) (h : keyMap R V k x = some c) : keyMap R V k = keyMap R V (k + 1) := by
  funext y
  simp only [keyMap]
  cases h0 : keyMap R V k y with
  | some c => rfl
  | none =>
    simp only
    rw [if_neg]
    rw [hr, hv]
    intro ⟨h1, h2⟩
    have : y = x := Prod.ext (Option.some.inj h1).symm (Option.some.inj h2).symm
    rw [this, h] at h0
    cases h0

theorem Least.self {a b : List Int} {i k : Nat} (h : Least a b i k) : Least a b k k :=
  ⟨Nat.le_refl _, rfl, rfl, fun j hj hh => h.2.2.2 j hj ⟨hh.1.trans h.2.1, hh.2.trans h.2.2.1⟩⟩

theorem IsBy.up {a b : List Int} {n : Nat} {out : List Int} (h : IsBy a b n out) : Up out out := by
  refine ⟨rfl, fun i hi => ?_⟩
  rw [h.1] at hi
  obtain ⟨k, h1, h2⟩ := h.2 i hi
  obtain ⟨l, h3, h4⟩ := h.2 k (by have := h2.1; omega)
  obtain rfl := h4.unique h2.self
  exact ⟨l, h2.1, h1, by rw [h3, h1], fun e => by rw [h1, e]⟩

structure KeepS (mb m : Nat) (f : Int × Int → Option Int) (p q u n bk : Nat) (x : Int × Int) (w : World) : Prop where
  h1 : IntMap E80 3 w mb m f
  h2 : w.cell? ⟨q, 0, none⟩ = some (.slice (some ⟨u, 0, none⟩) n n)
  h3 : w.cell? ⟨bk, 0, none⟩ = some (.int .i64 x.1)
  h4 : w.cell? ⟨bk, 1, none⟩ = some (.int .i64 x.2)

theorem split1_any (M : Nat → Prop) (V : List Int) (vm : Value) (bx a : Nat) (w : World) (hb : w.cell? ⟨bx, 0, none⟩ = some vm) (hv : Ints M w vm V) (ha : a < V.length) :
    Calls Try.prog 46 #[.int .i64 a, .pointer (some ⟨bx, 0, none⟩)] w fun e w' => ∃ v, V[a]? = some v ∧ e = .returned (.int .i64 v) ∧ w = w' := by
  obtain ⟨x, c, rfl, hl, -⟩ := hv.open
  obtain ⟨b, off, v, rfl, h1, h2⟩ := Ints.slot hv (Mut.refl _ _) ha
  clear hv
  replace h1 := Lib.hid h1
  go_enter Try.func46, Try.ntmps46
  go_wp2
  go_ret
  exact ⟨v, h1.out, rfl, rfl⟩

/-- keep at the closure of Split. -/
def KeepBPost (w : World) (p u n : Nat) (R V : List Int) (e : Ending) (w' : World) : Prop :=
  ∃ (q v : Nat) (out : List Int), e = .returned (.pointer (some ⟨q, 0, none⟩)) ∧ w.heap.size ≤ q ∧ w.heap.size ≤ v ∧ Part w' q v n out ∧ IsBy R V n out ∧ Part w' p u n R ∧ Mut (· = u) w w'

def keptF (out : List Int) (i : Nat) : Value := .int .i64 ((out[i]?).getD 0)

theorem keptF_snoc {out : List Int} {k : Nat} (hl : out.length = k) (c : Int) (i : Nat) : (if i = k then Value.int .i64 c else keptF out i) = keptF (out ++ [c]) i := by
  unfold keptF
  by_cases e : i = k
  · subst e; subst hl; simp
  · rw [if_neg e]
    rcases Nat.lt_or_ge i k with h | h
    · rw [List.getElem?_append_left (by omega)]
    · rw [List.getElem?_eq_none (by omega), List.getElem?_eq_none (by simp; omega)]

set_option maxHeartbeats 4000000 in
theorem keepB_any (M : Nat → Prop) (V : List Int) (vm : Value) (bx : Nat) (w : World) (p u n : Nat) (R : List Int) (hP : Part w p u n R) (hb : w.cell? ⟨bx, 0, none⟩ = some vm) (hbu : bx ≠ u) (hv : Ints M w vm V) (hM : M u) (hl : V.length = n)
    (hwf : ∀ (i : Nat) x, V[i]? = some x → (Lit.int .i64 x).wf = true) :
    Calls Try.prog 44 #[.pointer (some ⟨p, 0, none⟩), .func (.func 46) #[] #[.pointer (some ⟨bx, 0, none⟩)]] w (KeepBPost w p u n R V) := by
  have hn := hP.small
  have hult := hP.ult
  have hplt := hP.plt
  have hblt := World.block_lt_of_cell? w _ hb
  have hmm := @run_makeMap Try.prog
  have hmk := fun w => run_make_row' (P := Try.prog) 24 3 (.int .i64 0) 8 Try.underlying24 info3 rfl .i64 .i64 n (by omega) (by omega) w
  replace hP := Lib.hid hP
  replace hb := Lib.hid hb
  replace hv := Lib.hid hv
  replace hwf := Lib.hid hwf
  replace hl := Lib.hid hl
  go_enter Try.func44, Try.ntmps44
  go_wp2_with fail
  refine (len_any _ p u n R hP.out).mono ?_
  rintro e w1 ⟨rfl, rfl⟩
  go_wp2_with fail
  refine (len_any _ p u n R (by exact hP.out.mut ((((Mut.refl (fun _ => False) w).alloc _).alloc _).alloc _) (by simp) (by simp))).mono ?_
  rintro e w1 ⟨rfl, rfl⟩
  go_wp2
  have hW0 : Mut (· = u) w (((w.alloc (Obj.cells (madeCells #[Value.int IntKind.i64 0] n) 3)).alloc (Obj.cells #[Value.slice (some { block := w.heap.size, off := 0 }) n n] 70)).alloc (Obj.map #[] 0)) := (((Mut.refl _ w).alloc _).alloc _).alloc _
  have hrow0 : (((w.alloc (Obj.cells (madeCells #[Value.int IntKind.i64 0] n) 3)).alloc (Obj.cells #[Value.slice (some { block := w.heap.size, off := 0 }) n n] 70)).alloc (Obj.map #[] 0)).rowIs w.heap.size 3 n (keptF []) :=
    (((World.rowIs_made w (.int .i64 0) n 3).alloc _).alloc _).congr (fun i _ => by simp [keptF])
  have hq0 : (((w.alloc (Obj.cells (madeCells #[Value.int IntKind.i64 0] n) 3)).alloc (Obj.cells #[Value.slice (some { block := w.heap.size, off := 0 }) n n] 70)).alloc (Obj.map #[] 0)).heap[w.heap.size + 1]? = some (.cells #[.slice (some ⟨w.heap.size, 0, none⟩) n n] 70 (0, 0)) := by
    have h := heap_alloc_new (w.alloc (Obj.cells (madeCells #[Value.int .i64 0] n) 3)) (Obj.cells #[.slice (some ⟨w.heap.size, 0, none⟩) n n] 70)
    rw [show (w.alloc (Obj.cells (madeCells #[Value.int .i64 0] n) 3)).heap.size = w.heap.size + 1 from by simp] at h
    rw [heap_alloc_old _ _ (by simp)]; exact h
  have hm0 : IntMap E80 3 (((w.alloc (Obj.cells (madeCells #[Value.int IntKind.i64 0] n) 3)).alloc (Obj.cells #[Value.slice (some { block := w.heap.size, off := 0 }) n n] 70)).alloc (Obj.map #[] 0)) (w.heap.size + 1 + 1) 0 (keyMap R V 0) := by
    have h := IntMap.made (E := E80) (e := 3) ((w.alloc (Obj.cells (madeCells #[Value.int .i64 0] n) 3)).alloc (Obj.cells #[.slice (some ⟨w.heap.size, 0, none⟩) n n] 70))
    rw [show ((w.alloc (Obj.cells (madeCells #[Value.int .i64 0] n) 3)).alloc (Obj.cells #[.slice (some ⟨w.heap.size, 0, none⟩) n n] 70)).heap.size = w.heap.size + 1 + 1 from by simp] at h
    exact h
  have hP0 := hP.out.mut ((((Mut.refl (fun _ => False) w).alloc (Obj.cells (madeCells #[Value.int IntKind.i64 0] n) 3)).alloc (Obj.cells #[Value.slice (some { block := w.heap.size, off := 0 }) n n] 70)).alloc (Obj.map #[] 0)) (by simp) (by simp)
  have H0 := Lib.hid (And.intro hrow0 (And.intro hq0 (And.intro hm0 (And.intro hP0 hW0))))
  clear hrow0 hq0 hm0 hP0 hW0 hmm hmk
  obtain ⟨U, hU⟩ : ∃ U, U = w.heap.size := ⟨_, rfl⟩
  obtain ⟨q, hqe⟩ : ∃ q, q = w.heap.size + 1 := ⟨_, rfl⟩
  obtain ⟨mb, hmb⟩ : ∃ mb, mb = w.heap.size + 1 + 1 := ⟨_, rfl⟩
  rw [← hmb, ← hqe, ← hU] at H0
  rw [← hmb, ← hqe, ← hU]
  have hpU : ¬ p = U := by omega
  have huU : ¬ u = U := by omega
  have hqU : q ≠ U := by omega
  have hmU : ¬ mb = U := by omega
  have hUu : ¬ U = u := by omega
  have hqu : ¬ q = u := by omega
  have hmu : ¬ mb = u := by omega
  have hqm : ¬ q = mb := by omega
  have hUm : ¬ U = mb := by omega
  have hpm : ¬ p = mb := by omega
  have hum : ¬ u = mb := by omega
  have hUw : ¬ U < w.heap.size := by omega
  have hmw : ¬ mb < w.heap.size := by omega
  have hUle : w.heap.size ≤ U := by omega
  have hqle : w.heap.size ≤ q := by omega
  clear hU hqe hmb
  go_loopw [19] (fun i wr => ∃ (k m : Nat) (out : List Int), k ≤ n ∧ i = .int .i64 k ∧ m ≤ k ∧ IsBy R V k out ∧ wr.rowIs U 3 n (keptF out) ∧ wr.heap[q]? = some (.cells #[.slice (some ⟨U, 0, none⟩) n n] 70 (0, 0)) ∧ IntMap E80 3 wr mb m (keyMap R V k) ∧ Part wr p u n R ∧ Mut (· = u) w wr) (fun i _ => n - (intOf i).toNat)
  case atStart => exact ⟨0, 0, [], by omega, rfl, by omega, ⟨rfl, by omega⟩, H0.out.1, H0.out.2.1, H0.out.2.2.1, H0.out.2.2.2.1, H0.out.2.2.2.2⟩
  case round =>
    obtain ⟨k, m, out, hk, rfl, hmk, hby, hrow, hq, hmp, hPx, hMx⟩ := hrel
    clear H0 hP
    replace hby := Lib.hid hby
    replace hrow := Lib.hid hrow
    replace hq := Lib.hid hq
    replace hmp := Lib.hid hmp
    replace hPx := Lib.hid hPx
    replace hMx := Lib.hid hMx
    by_cases hlt : k < n
    · go_wp2_with fail
      refine (head_any k _ p u n R hPx.out hlt).mono ?_
      rintro e w2 ⟨r, rfl, hr, hrr, hrk, hP2, hm2⟩
      go_wp2_with fail
      have hMx2 := hMx.out.trans hm2
      refine (split1_any M V vm bx k _ (hMx2.cell hb.out hbu) (hv.out.mut hMx2 (fun b _ e => by rw [e]; exact hM)) (by rw [hl.out]; exact hlt)).mono ?_
      rintro e w2' ⟨v, hvk, rfl, rfl⟩
      have hrow2 := hrow.out.of_block (hm2.block U hrow.out.lt hUu)
      have hq2 := hm2.heap hq.out hqu
      have hmp2 := hmp.out.mut hm2 hmu
      have hwr : (Lit.int .i64 (r : Int)).wf = true := WalkArith.wf_i64 (by omega)
      have hwv := hwf.out k v hvk
      clear hrow hq hmp hPx hMx hm2
      obtain ⟨bk, hbk⟩ : ∃ bk, bk = w2.heap.size := ⟨_, rfl⟩
      have hqlt : q < w2.heap.size := (Array.getElem?_eq_some_iff.1 hq2).1
      have hw3 := (Mut.refl (fun _ => False) w2).alloc (.cells #[.int .i64 (r : Nat), .int .i64 v] 80)
      have hrow3 := hrow2.alloc (.cells #[.int .i64 (r : Nat), .int .i64 v] 80)
      have hq3 := hw3.heap hq2 (by simp)
      have hmp3 := hmp2.mut hw3 (by simp)
      have hPx3 := hP2.mut hw3 (by simp) (by simp)
      have hMx3 := hMx2.alloc (.cells #[.int .i64 (r : Nat), .int .i64 v] 80)
      have hk0 : (w2.alloc (.cells #[.int .i64 (r : Nat), .int .i64 v] 80)).cell? ⟨bk, 0, none⟩ = some (.int .i64 (r : Nat)) := by
        rw [hbk]; have h := heap_alloc_new w2 (.cells #[.int .i64 (r : Nat), .int .i64 v] 80); simp only [World.cell?]; rw [h]; rfl
      have hk1 : (w2.alloc (.cells #[.int .i64 (r : Nat), .int .i64 v] 80)).cell? ⟨bk, 1, none⟩ = some (.int .i64 v) := by
        rw [hbk]; have h := heap_alloc_new w2 (.cells #[.int .i64 (r : Nat), .int .i64 v] 80); simp only [World.cell?]; rw [h]; rfl
      have hok := Lib.hid (show E80.ok ((r : Int), v) from ⟨hwr, hwv⟩)
      replace hr := Lib.hid hr
      replace hrr := Lib.hid hrr
      replace hvk := Lib.hid hvk
      cases hc : keyMap R V k ((r : Int), v) with
      | some c =>
        have hlook := hmp3.look_ok Try.underlying78 Try.underlying3 zero3 (x := ((r : Int), v)) hok.out hc
        have hlook' : (Instr.lookup 78 (.map (some mb)) (.agg #[.int .i64 (r : Nat), .int .i64 v]) true).run Try.prog (w2.alloc (.cells #[.int .i64 (r : Nat), .int .i64 v] 80)) = .ok (.tuple #[.int .i64 c, .bool true]) (w2.alloc (.cells #[.int .i64 (r : Nat), .int .i64 v] 80)) := hlook
        clear hlook
        have hL : Least R V k c.toNat ∧ (c.toNat : Int) = c ∧ c.toNat < k := by
          obtain ⟨i, h1, h2, h3, h4, h5⟩ := keyMap_some hc
          subst h1
          exact ⟨⟨by simp; omega, by simpa [hr.out] using h3, by simpa [hvk.out] using h4, fun j hj => by simpa [hr.out, hvk.out] using h5 j (by simpa using hj)⟩, by simp, by simpa using h2⟩
        have hbyn := Lib.hid (by have := hby.out.snoc hL.1; rw [hL.2.1] at this; exact this : IsBy R V (k + 1) (out ++ [c]))
        have hnext := Lib.hid (keyMap_old (x := ((r : Int), v)) hr.out hvk.out hc)
        have hfc := Lib.hid hc
        have hwc : (Lit.int .i64 c).wf = true := WalkArith.wf_i64 (by have := hL.2; omega)
        replace hL := Lib.hid hL
        clear hc hw3 hrow2 hq2 hmp2 hP2 hMx2
        have hrow := Lib.hid hrow3
        have hq := Lib.hid hq3
        have hmp := Lib.hid hmp3
        have hPx := Lib.hid hPx3
        have hMx := Lib.hid hMx3
        have hcq : (w2.alloc (.cells #[.int .i64 (r : Nat), .int .i64 v] 80)).cell? ⟨q, 0, none⟩ = some (.slice (some ⟨U, 0, none⟩) n n) := by simp only [World.cell?]; rw [hq3]; rfl
        clear hrow3 hq3 hmp3 hPx3 hMx3
        replace hnext := hnext
        subst hbk
        go_wp2
        generalize hw3e : w2.alloc (.cells #[.int .i64 (r : Nat), .int .i64 v] 80) = w3 at *
        replace hw3e := Lib.hid hw3e
        generalize hff : keyMap R V k = f at *
        replace hff := Lib.hid hff
        obtain ⟨bk, hbk⟩ : ∃ bk, bk = w2.heap.size := ⟨_, rfl⟩
        rw [← hbk] at hk0 hk1
        rw [← hbk]
        clear hbk
        have hS := Lib.hid (show KeepS mb m f p q U n bk (r, v) w3.drew from ⟨hmp.out.mut ((Mut.refl (fun _ => False) w3).drew) (by simp), by simpa using hcq, by simpa using hk0, by simpa using hk1⟩)
        have hne := Cls.ne hS.out
        refine wp_plan (KeepS mb m f p q U n bk (r, v)) [0, 1, 2, 3, 4, 5, 6, 7, 8] [([0, 1, 2, 3, 4, 5, 6, 7, 8], none)] [9] (by kernel_rfl) (by kernel_rfl) ?_
        refine ⟨Of.mk hS.out, ?_⟩
        simp only [wpPlan, pickOps_cons, pickOps_nil, List.getElem?_cons_zero, List.getElem?_cons_succ, pickOp_some]
        have s1 : ∀ x : Cls (KeepS mb m f p q U n bk (r, v)), (Instr.lookup 78 (.map (some mb)) (.agg #[.int .i64 r, .int .i64 v]) false).run Try.prog x.w = .ok (.int .i64 c) x.w :=
          fun x => x.ok.h1.look Try.underlying78 Try.underlying3 zero3 (x := ((r : Int), v)) hok.out hfc.out
        have s2 := fun x : Cls (KeepS mb m f p q U n bk (r, v)) => x.ok.h2
        have s3 := fun x : Cls (KeepS mb m f p q U n bk (r, v)) => x.ok.h3
        have s4 := fun x : Cls (KeepS mb m f p q U n bk (r, v)) => x.ok.h4
        repeat (go_big_quiet_step (fail))
        refine wpQuiet_nil ?_
        clear s1 s2 s3 s4 hne
        have hcu := hrow.out.cell (i := k) hlt
        have hfu := hrow.out.frozen k
        generalize keptF out k = z at hcu
        have hrow1 : (w3.drew.setCell ⟨U, k, none⟩ (.int .i64 c)).rowIs U 3 n (keptF (out ++ [c])) := (hrow.out.drew.set k (.int .i64 c)).congr (fun i _ => keptF_snoc hby.out.1 c i)
        have hq1 : (w3.drew.setCell ⟨U, k, none⟩ (.int .i64 c)).heap[q]? = some (.cells #[.slice (some ⟨U, 0, none⟩) n n] 70 (0, 0)) := by
          rw [Below.heap_setCell _ _ _ _ (by simpa using hqU)]; exact hq.out
        have hmp1 : IntMap E80 3 (w3.drew.setCell ⟨U, k, none⟩ (.int .i64 c)) mb m f := hmp.out.mut (((Mut.refl (· = U) w3).drew).setCell (p := ⟨U, k, none⟩) (fun _ => rfl) _) hmU
        have hP1' := hPx.out.mut (((Mut.refl (· = U) w3).drew).setCell (p := ⟨U, k, none⟩) (fun _ => rfl) (.int .i64 c)) hpU huU
        have hM1' := (hMx.out.drew).setCell (p := ⟨U, k, none⟩) (fun h => absurd h hUw) (.int .i64 c)
        have H := Lib.hid (And.intro hrow1 (And.intro hq1 (And.intro hmp1 (And.intro hP1' hM1'))))
        clear hrow1 hq1 hmp1 hP1' hM1'
        go_wp2
        refine NoPanic.normal ?_
        go_wp2
        go_roundw
        case rel => exact ⟨k + 1, m, out ++ [c], by omega, by go_num, by omega, hbyn.out, H.out.1, H.out.2.1, by rw [← hnext.out]; exact H.out.2.2.1, H.out.2.2.2.1, H.out.2.2.2.2⟩
        case measure => simp [intOf]; omega
      | none =>
        have hlook := hmp3.look_no Try.underlying78 Try.underlying3 zero3 (x := ((r : Int), v)) hok.out hc
        have hlook' : (Instr.lookup 78 (.map (some mb)) (.agg #[.int .i64 (r : Nat), .int .i64 v]) true).run Try.prog (w2.alloc (.cells #[.int .i64 (r : Nat), .int .i64 v] 80)) = .ok (.tuple #[.int .i64 0, .bool false]) (w2.alloc (.cells #[.int .i64 (r : Nat), .int .i64 v] 80)) := hlook
        clear hlook
        have hL : Least R V k k := ⟨Nat.le_refl _, rfl, rfl, fun j hj => by simpa [hr.out, hvk.out] using keyMap_none hc j hj⟩
        have hbyn := Lib.hid (hby.out.snoc hL)
        have hnext := Lib.hid (keyMap_new (x := ((r : Int), v)) hr.out hvk.out hc)
        have hwc : (Lit.int .i64 (k : Int)).wf = true := WalkArith.wf_i64 (by omega)
        replace hwc := Lib.hid hwc
        replace hL := Lib.hid hL
        clear hc hw3 hrow2 hq2 hmp2 hP2 hMx2
        have hrow := Lib.hid hrow3
        have hq := Lib.hid hq3
        have hmp := Lib.hid hmp3
        have hPx := Lib.hid hPx3
        have hMx := Lib.hid hMx3
        have hcq : (w2.alloc (.cells #[.int .i64 (r : Nat), .int .i64 v] 80)).cell? ⟨q, 0, none⟩ = some (.slice (some ⟨U, 0, none⟩) n n) := by simp only [World.cell?]; rw [hq3]; rfl
        clear hrow3 hq3 hmp3 hPx3 hMx3
        have hbkm : ¬ bk = mb := by have := hmp.out.lt; have h2 := (hmp.out); intro e; have h3 := IntMap.not_cells h2; rw [← e, hbk] at h3; exact h3 _ _ _ (heap_alloc_new _ _)
        subst hbk
        go_wp2_with (at_mapUpdate; refine wpList_mapPut (E := E80) Try.underlying78 Try.underlying3 rfl _ _ _ rfl ((r : Int), v) (k : Int) hmp.out rfl rfl rfl hok.out hwc.out (by unfold maxLen; omega) ?_; intro w4 hmpx hm4)
        have hmpy := hmpx
        rw [hnext.out] at hmpy
        have hmp4 := Lib.hid hmpy
        clear hmpx hmpy
        have hcq' := hm4.cell hcq hqm
        have hk0' := hm4.cell hk0 hbkm
        have hk1' := hm4.cell hk1 hbkm
        have hrow4 := hrow.out.of_block (hm4.block U hrow.out.lt hUm)
        have hq4 := hm4.heap hq.out hqm
        have hP4 := hPx.out.mut hm4 hpm hum
        have hM4 := hMx.out.trans' hm4 (fun i hi e => absurd hi (by omega))
        clear hrow hq hmp hPx hMx hm4 hcq hk0 hk1
        have hrow := Lib.hid hrow4
        have hq := Lib.hid hq4
        have hPx := Lib.hid hP4
        have hMx := Lib.hid hM4
        have hcq := hcq'
        have hk0 := hk0'
        have hk1 := hk1'
        clear hrow4 hq4 hP4 hM4 hcq' hk0' hk1'
        have hfc := Lib.hid (show keyMap R V (k + 1) ((r : Int), v) = some (k : Int) by rw [← hnext.out]; simp)
        clear hnext
        have hnext := Lib.hid (Eq.refl (keyMap R V (k + 1)))
        generalize hff : keyMap R V (k + 1) = f at hmp4 hfc hnext
        replace hff := Lib.hid hff
        obtain ⟨m1, hm1⟩ : ∃ m1, m1 = m + 1 := ⟨_, rfl⟩
        rw [← hm1] at hmp4
        have hm1k : m1 ≤ k + 1 := by omega
        clear hm1
        obtain ⟨bk, hbk⟩ : ∃ bk, bk = w2.heap.size := ⟨_, rfl⟩
        rw [← hbk] at hk0 hk1
        rw [← hbk]
        clear hbk
        simp only [Act.put]
        have hS := Lib.hid (show KeepS mb m1 f p q U n bk (r, v) w4.drew from ⟨hmp4.out.mut ((Mut.refl (fun _ => False) w4).drew) (by simp), by simpa using hcq, by simpa using hk0, by simpa using hk1⟩)
        have hne := Cls.ne hS.out
        refine wp_plan (KeepS mb m1 f p q U n bk (r, v)) [0, 1, 2, 3, 4, 5, 6, 7, 8] [([0, 1, 2, 3, 4, 5, 6, 7, 8], none)] [9] (by kernel_rfl) (by kernel_rfl) ?_
        refine ⟨Of.mk hS.out, ?_⟩
        simp only [wpPlan, pickOps_cons, pickOps_nil, List.getElem?_cons_zero, List.getElem?_cons_succ, pickOp_some]
        have s1 : ∀ x : Cls (KeepS mb m1 f p q U n bk (r, v)), (Instr.lookup 78 (.map (some mb)) (.agg #[.int .i64 r, .int .i64 v]) false).run Try.prog x.w = .ok (.int .i64 (k : Nat)) x.w :=
          fun x => x.ok.h1.look Try.underlying78 Try.underlying3 zero3 (x := ((r : Int), v)) hok.out hfc.out
        have s2 := fun x : Cls (KeepS mb m1 f p q U n bk (r, v)) => x.ok.h2
        have s3 := fun x : Cls (KeepS mb m1 f p q U n bk (r, v)) => x.ok.h3
        have s4 := fun x : Cls (KeepS mb m1 f p q U n bk (r, v)) => x.ok.h4
        repeat (go_big_quiet_step (fail))
        refine wpQuiet_nil ?_
        clear s1 s2 s3 s4 hne
        have hcu := hrow.out.cell (i := k) hlt
        have hfu := hrow.out.frozen k
        generalize keptF out k = z at hcu
        have hrow1 : (w4.drew.setCell ⟨U, k, none⟩ (.int .i64 (k : Nat))).rowIs U 3 n (keptF (out ++ [(k : Int)])) := (hrow.out.drew.set k (.int .i64 (k : Nat))).congr (fun i _ => keptF_snoc hby.out.1 (k : Int) i)
        have hq1 : (w4.drew.setCell ⟨U, k, none⟩ (.int .i64 (k : Nat))).heap[q]? = some (.cells #[.slice (some ⟨U, 0, none⟩) n n] 70 (0, 0)) := by
          rw [Below.heap_setCell _ _ _ _ (by simpa using hqU)]; exact hq.out
        have hmp1 : IntMap E80 3 (w4.drew.setCell ⟨U, k, none⟩ (.int .i64 (k : Nat))) mb m1 f := hmp4.out.mut (((Mut.refl (· = U) w4).drew).setCell (p := ⟨U, k, none⟩) (fun _ => rfl) _) hmU
        have hP1' := hPx.out.mut (((Mut.refl (· = U) w4).drew).setCell (p := ⟨U, k, none⟩) (fun _ => rfl) (.int .i64 (k : Nat))) hpU huU
        have hM1' := (hMx.out.drew).setCell (p := ⟨U, k, none⟩) (fun h => absurd h hUw) (.int .i64 (k : Nat))
        have H := Lib.hid (And.intro hrow1 (And.intro hq1 (And.intro hmp1 (And.intro hP1' hM1'))))
        clear hrow1 hq1 hmp1 hP1' hM1'
        go_wp2
        refine NoPanic.normal ?_
        go_wp2
        go_roundw
        case rel => exact ⟨k + 1, m1, out ++ [(k : Int)], by omega, by go_num, by omega, hbyn.out, H.out.1, H.out.2.1, by rw [hff.out]; exact H.out.2.2.1, H.out.2.2.2.1, H.out.2.2.2.2⟩
        case measure => simp [intOf]; omega
    · obtain rfl : k = n := by omega
      have H := Lib.hid (show KeepBPost w p u k R V (.returned (.pointer (some ⟨q, 0, none⟩))) wr from
        ⟨q, U, out, rfl, hqle, hUle, Part.of_row hn hq.out hrow.out (fun i hi => by
          obtain ⟨l, h1, _⟩ := hby.out.2 i hi
          simp [keptF, h1]) hby.out.up hby.out.1, hby.out, hPx.out, hMx.out⟩)
      clear hq hrow hmp hby hPx hMx
      go_wp2
      go_ret
      exact H.out
end Go.Proofs.Ytojfpobgncapjaa
