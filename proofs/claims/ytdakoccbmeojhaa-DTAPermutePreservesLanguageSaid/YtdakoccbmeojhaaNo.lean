/- How arguments are opened: lists, automata, arrays of bools, as data. No condition. -/
import Derived.Test.YtdakoccbmeojhaaNa
import Derived.Deep.Slices
import Derived.OpenShut
import Derived.SizedLaws
set_option linter.unusedSimpArgs false
set_option linter.unusedVariables false
set_option maxHeartbeats 400000
namespace Go.Proofs.Ytdakoccbmeojhaa
open Go Go.RowKit Go.PP Go.Dm Go.Deep

theorem okWide_arrayD {P : Program} {w : World} {r : Reach} {base : Nat} {t n : Nat} {e : TypeId} {v : Value} (ht : P.underlying t = some (.array n e)) (h : Value.okWide P w r base t v) : ∃ cs, v = .agg cs ∧ cs.size = P.cellsOf t := by
  simp only [Value.okWide, ht] at h
  obtain ⟨cs, h1, h2, _⟩ := h
  exact ⟨cs, h1, h2⟩
section
variable {H : Type} {enc : TypeId × Value → H} {w : World} {base : Nat} {held : Bool} {fuel : Nat} {cs : List Value} {x : DataW H × List MemPlace}
theorem open_slD {t e : TypeId} (ht : Try.prog.underlying t = some (.slice e)) (hc : Try.prog.cellsOf e = 1) {α : Type} (dOf : α → D)
    (each : ∀ (m : Nat) (cs : List Value) (x : DataW H × List MemPlace), DataW.trod enc Try.prog w base (fun _ => true) held m e cs = some x → ∃ v y, cs = [v] ∧ Rep (fun _ => False) w none (dOf y) v)
    (h : DataW.trod enc Try.prog w base (fun _ => true) held fuel t cs = some x) :
    ∃ (v : Value) (ys : List α), cs = [v] ∧ Rep (fun _ => False) w none (.sl false 1 ys.length (ys.map dOf)) v := by
  rcases open_slice ht h with ⟨rfl, _⟩ | ⟨a, len, cap, m, k, Dt, Pl, rfl, hb, hl, hm, hmm, rfl, hx⟩
  · exact ⟨_, [], rfl, by simp only [Rep]; exact ⟨none, 0, rfl, Nat.le_refl _, fun h => (by cases h), by simp, by simp, .inl (by simp)⟩⟩
  · simp only [if_true] at hmm
    have each' : ∀ i, i < len → ∃ y : Value × α, w.cell? (a.add i) = some y.1 ∧ Rep (fun _ => False) w none (dOf y.2) y.1 := by
      intro i hi
      obtain ⟨cs', h1, h2⟩ := hx i (by omega)
      rw [hc] at h1
      obtain ⟨hlen, hcell⟩ := (World.cells?_some h1).2
      obtain ⟨v, y, rfl, hR⟩ := each _ _ _ h2
      refine ⟨(v, y), ?_, hR⟩
      have := hcell 0 (by omega); rw [add_add] at this; simpa using this
    by_cases hl0 : len = 0
    · subst hl0
      exact ⟨_, [], rfl, by simp only [Rep]; exact ⟨some a, cap, rfl, Nat.zero_le _, fun h => (by cases h), by simp, by simp, .inl (by simp)⟩⟩
    · obtain ⟨y0, hy0, _⟩ := each' 0 (by omega)
      have : Inhabited α := ⟨y0.2⟩
      obtain ⟨f, hf⟩ := choose_lt each'
      obtain ⟨b, off, spot⟩ := a
      have hspot : spot = none := by
        have := World.cell?_spot (hf 0 (by omega)).1
        simpa [Addr.add] using this
      subst hspot
      refine ⟨_, (List.range len).map fun i => (f i).2, rfl, ?_⟩
      simp only [Rep]
      refine ⟨some ⟨b, off, none⟩, cap, by simp, by simpa using hl, fun h => (by cases h), by simp, by unfold maxLen at hm; simp; omega, .inr ⟨b, off, rfl, id, RepC.of fun i d hd => ?_⟩⟩
      have hi : i < len := by
        have := (List.getElem?_eq_some_iff.1 hd).1
        simpa using this
      obtain ⟨h1, h2⟩ := hf i hi
      refine ⟨(f i).1, ?_, ?_⟩
      · rw [show (⟨b, off, none⟩ : Addr).add i = ⟨b, off + i, none⟩ from by unfold Addr.add; split <;> simp_all] at h1; exact h1
      · simp [hi] at hd; rw [← hd]; exact h2
theorem open_intsD {t : TypeId} (ht : Try.prog.underlying t = some (.slice 3)) (h : DataW.trod enc Try.prog w base (fun _ => true) held fuel t cs = some x) : ∃ v ys, cs = [v] ∧ Rep (fun _ => False) w none (intsD ys) v :=
  open_slD ht (by kernel_rfl) (fun x => .flat (.int .i64 x)) (fun m cs x hx => by
    obtain ⟨z, hz, hw⟩ := DataW.trod_int Try.underlying3 hx
    exact ⟨_, z, hz, by simp only [Rep]⟩) h
theorem open_boolsD (h : DataW.trod enc Try.prog w base (fun _ => true) held fuel 23 cs = some x) : ∃ v ys, cs = [v] ∧ Rep (fun _ => False) w none (boolsD ys) v :=
  open_slD Try.underlying23 (by kernel_rfl) (fun x => .flat (.bool x)) (fun m cs x hx => by
    obtain ⟨z, hz, hw⟩ := DataW.trod_bool Try.underlying4 hx
    exact ⟨_, z, hz, by simp only [Rep]⟩) h
theorem open_rowsD (h : DataW.trod enc Try.prog w base (fun _ => true) held fuel 24 cs = some x) : ∃ v ys, cs = [v] ∧ Rep (fun _ => False) w none (rowsD ys) v :=
  open_slD Try.underlying24 (by kernel_rfl) intsD (fun m cs x hx => open_intsD Try.underlying22 hx) h
set_option maxRecDepth 100000 in
/-- An automaton of the reference. -/
theorem open_autD (h : DataW.trod enc Try.prog w base (fun _ => true) held fuel 26 cs = some x) : ∃ v1 v2 v3 A, cs = [v1, v2, v3] ∧ Rep (fun _ => False) w none (auD A) (.agg #[v1, v2, v3]) := by
  obtain ⟨xs, m, _, _, hl, hx, hi⟩ := DataW.trod_struct Try.underlying26 h
  have cA : Try.prog.cellsOf 26 = 3 := by kernel_rfl
  have c0 : Try.prog.cellsOf 22 = 1 := by kernel_rfl
  have c1 : Try.prog.cellsOf 23 = 1 := by kernel_rfl
  have c2 : Try.prog.cellsOf 24 = 1 := by kernel_rfl
  rw [cA] at hl
  match cs, hl with
  | [va, vb, vc], _ =>
    have g0 : DataW.trod enc Try.prog w base (fun _ => true) held m 22 ((([va, vb, vc] : List Value).drop 0).take (Try.prog.cellsOf 22)) = xs[0]? := hi 0 _ rfl
    have g1 : DataW.trod enc Try.prog w base (fun _ => true) held m 23 ((([va, vb, vc] : List Value).drop 1).take (Try.prog.cellsOf 23)) = xs[1]? := hi 1 _ rfl
    have g2 : DataW.trod enc Try.prog w base (fun _ => true) held m 24 ((([va, vb, vc] : List Value).drop 2).take (Try.prog.cellsOf 24)) = xs[2]? := hi 2 _ rfl
    clear hi
    have hx3 : xs.length = 3 := hx
    rw [List.getElem?_eq_getElem (by omega)] at g0 g1 g2
    rw [c0] at g0
    rw [c1] at g1
    rw [c2] at g2
    obtain ⟨v0, xs0, e0, q0⟩ := open_intsD Try.underlying22 g0
    obtain ⟨v1, xs1, e1, q1⟩ := open_boolsD g1
    obtain ⟨v2, xs2, e2, q2⟩ := open_rowsD g2
    have e0' : [va] = [v0] := e0
    have e1' : [vb] = [v1] := e1
    have e2' : [vc] = [v2] := e2
    simp only [List.cons.injEq, and_true] at e0' e1' e2'
    subst e0' e1' e2'
    exact ⟨_, _, _, ⟨xs0, xs1, xs2⟩, rfl, by simp only [auD, Rep, RepL]; exact ⟨[va, vb, vc], rfl, _, _, rfl, q0, _, _, rfl, q1, _, _, rfl, q2, rfl⟩⟩
end
/-- A law over data, for values. -/
theorem law_ret {k : FuncId} {args : List D} {v : Value} (h : DFun Try.prog k args (.flat v)) {w : World} {vals : List Value} (hv : RepL (fun _ => False) w none args vals) : Calls Try.prog k vals.toArray w (fun e w' => e = .returned v ∧ Fix w w') :=
  (h (fun _ => False) w vals (fun _ h => h.elim) hv).mono fun e w' ⟨u, h1, h2, h3⟩ => ⟨by simp only [Rep] at h2; rw [h1, h2], h3⟩
set_option maxRecDepth 100000 in
theorem open_arrD {H : Type} {enc : TypeId × Value → H} {w : World} {base : Nat} {held : Bool} {fuel : Nat} {cs : Array Value} {x : DataW H × List MemPlace} (hs : cs.size = Try.prog.cellsOf 62) (h : DataW.trod enc Try.prog w base (fun _ => true) held fuel 62 cs.toList = some x) : ∃ wh : List Bool, wh.length = 4 ∧ Rep (fun _ => False) w none (.agg (wh.map boolD)) (.agg cs) := by
  obtain ⟨xs, m, rfl, hx, hl, hxl, hi⟩ := DataW.trod_array Try.underlying62 h
  have cA : Try.prog.cellsOf 62 = 4 := by kernel_rfl
  have ce : Try.prog.cellsOf 4 = 1 := by kernel_rfl
  rw [cA] at hs
  rw [ce] at hi
  obtain ⟨l, rfl⟩ : ∃ l : List Value, cs = l.toArray := ⟨cs.toList, by simp⟩
  simp only [List.size_toArray] at hs
  match l, hs with
  | [v0, v1, v2, v3], _ =>
    have one : ∀ (i : Nat) (v : Value), i < 4 → [v0, v1, v2, v3][i]? = some v → ∃ b : Bool, v = .bool b := fun i v hi4 hv => by
      have g := hi i hi4
      rw [List.getElem?_eq_getElem (by omega)] at g
      have e : (([v0, v1, v2, v3].toArray.toList.drop (i * 1)).take 1) = [v] := by
        rcases (show i = 0 ∨ i = 1 ∨ i = 2 ∨ i = 3 by omega) with rfl | rfl | rfl | rfl <;> simp at hv <;> subst hv <;> rfl
      rw [e] at g
      obtain ⟨z, hz, _⟩ := DataW.trod_bool Try.underlying4 g
      simp only [Value.cells, List.cons.injEq, and_true] at hz
      exact ⟨z, by simpa using hz⟩
    obtain ⟨b0, rfl⟩ := one 0 v0 (by omega) rfl
    obtain ⟨b1, rfl⟩ := one 1 v1 (by omega) rfl
    obtain ⟨b2, rfl⟩ := one 2 v2 (by omega) rfl
    obtain ⟨b3, rfl⟩ := one 3 v3 (by omega) rfl
    exact ⟨[b0, b1, b2, b3], rfl, by simp only [Rep, RepL, List.map, boolD]; exact ⟨_, rfl, _, _, rfl, rfl, _, _, rfl, rfl, _, _, rfl, rfl, _, _, rfl, rfl, rfl⟩⟩
end Go.Proofs.Ytdakoccbmeojhaa
/- Trees as data: how they are read and opened. No condition. -/
set_option linter.unusedSimpArgs false
set_option linter.unusedVariables false
set_option maxHeartbeats 400000
namespace Go.Proofs.Ytdakoccbmeojhaa
open Go Go.RowKit Go.PP Go.Dm Go.Deep

mutual
def treeC : Tr → List D
  | .node s l => [intD s, .sl false 2 l.length (kidsC l)]
def kidsC : List Tr → List D
  | [] => []
  | t :: ts => treeC t ++ kidsC ts
end
def treeD (t : Tr) : D := .agg (treeC t)
mutual
/-- No slice of children takes more memory than there is. -/
def TSm : Tr → Prop
  | .node _ l => l.length * 32 ≤ 140737488351232 ∧ TSmL l
def TSmL : List Tr → Prop
  | [] => True
  | t :: ts => TSm t ∧ TSmL ts
end
mutual
def depT : Tr → Nat
  | .node _ l => depL l + 1
def depL : List Tr → Nat
  | [] => 0
  | t :: ts => max (depT t) (depL ts)
end
theorem TSmL.at : ∀ {l : List Tr}, TSmL l → ∀ {i : Nat} {t : Tr}, l[i]? = some t → TSm t
  | [], _, i, t, h => by simp at h
  | x :: xs, hs, i, t, h => by
    rw [TSmL] at hs
    cases i with
    | zero => simp at h; subst h; exact hs.1
    | succ i => exact TSmL.at hs.2 (by simpa using h)
theorem TSmL.of : ∀ {l : List Tr}, (∀ (i : Nat) t, l[i]? = some t → TSm t) → TSmL l
  | [], _ => by rw [TSmL]; trivial
  | x :: xs, h => by
    rw [TSmL]
    exact ⟨h 0 x (by simp), TSmL.of fun i t hi => h (i + 1) t (by simpa using hi)⟩
theorem depL_at : ∀ {l : List Tr} {i : Nat} {t : Tr}, l[i]? = some t → depT t ≤ depL l
  | [], i, t, h => by simp at h
  | x :: xs, i, t, h => by
    rw [depL]
    cases i with
    | zero => simp at h; subst h; omega
    | succ i => have := depL_at (l := xs) (i := i) (t := t) (by simpa using h); omega
theorem treeC_two (t : Tr) : (treeC t).length = 2 := by cases t with | node s l => rw [treeC]; rfl
theorem kidsC_len : ∀ l : List Tr, (kidsC l).length = l.length * 2
  | [] => by rw [kidsC]; rfl
  | t :: ts => by rw [kidsC, List.length_append, treeC_two, kidsC_len ts, List.length_cons]; omega
theorem kidsC_append : ∀ l r : List Tr, kidsC (l ++ r) = kidsC l ++ kidsC r
  | [], r => by rw [kidsC]; rfl
  | t :: ts, r => by rw [List.cons_append, kidsC, kidsC, kidsC_append ts r, List.append_assoc]
theorem kidsC_snoc {l : List Tr} {i : Nat} {t : Tr} (h : l[i]? = some t) : kidsC (l.take (i + 1)) = kidsC (l.take i) ++ treeC t := by
  rw [List.take_add_one, h, kidsC_append]
  show _ ++ kidsC [t] = _
  rw [kidsC, kidsC, List.append_nil]
theorem kidsC_drop : ∀ {l : List Tr} {i : Nat} {t : Tr}, l[i]? = some t → ((kidsC l).drop (i * 2)).take 2 = treeC t
  | [], i, t, h => by simp at h
  | x :: xs, i, t, h => by
    rw [kidsC]
    cases i with
    | zero =>
      simp at h; subst h
      rw [Nat.zero_mul, List.drop_zero, List.take_append_of_le_length (by rw [treeC_two]; omega), List.take_of_length_le (by rw [treeC_two]; omega)]
    | succ i =>
      rw [List.drop_append, List.drop_eq_nil_of_le (by rw [treeC_two]; omega), List.nil_append, treeC_two, show (i + 1) * 2 - 2 = i * 2 by omega]
      exact kidsC_drop (by simpa using h)
theorem part_kids {l : List Tr} {i : Nat} {t : Tr} (h : l[i]? = some t) : partD true 2 (((i : Int)).toNat * 2) (kidsC l) = some (treeD t) := by
  have hi := (List.getElem?_eq_some_iff.1 h).1
  have h1 := kidsC_drop h
  have h2 := kidsC_len l
  simp only [Int.toNat_natCast, partD, treeD]
  simp only [h1, treeC_two]
  first
    | rfl
    | (rw [if_pos (by omega)]; rfl)
    | (simp; omega)
    | simp
theorem treeC_pers (t : Tr) : persL (treeC t) = true := by cases t with | node s l => rw [treeC]; rfl
theorem kidsC_pers : ∀ l : List Tr, persL (kidsC l) = true
  | [] => by rw [kidsC]; rfl
  | t :: ts => by rw [kidsC]; exact persL_append (treeC_pers t) (kidsC_pers ts)
theorem treeD_pers (t : Tr) : pers (treeD t) = true := treeC_pers t

theorem TreeIn.upD {M : Nat → Prop} {w : World} : ∀ {d : Nat} {s : Int} {v : Value} {t : Tr}, TreeIn M w d s v t → TreeIn M w (d + 1) s v t
  | 0, _, _, _, h => h.elim
  | d + 1, s, v, .node s' l, h => by
    obtain ⟨h1, a, c, h2, h3, h4⟩ := h
    refine ⟨h1, a, c, h2, h3, fun i hi => ?_⟩
    obtain ⟨b, off, s1, v1, t1, q1, q2, q3, q4, q5, q6⟩ := h4 i hi
    exact ⟨b, off, s1, v1, t1, q1, q2, q3, q4, q5, TreeIn.upD q6⟩
theorem TreeIn.freeD {M : Nat → Prop} {w : World} : ∀ {d : Nat} {s : Int} {v : Value} {t : Tr}, TreeIn M w d s v t → TreeIn (fun _ => False) w d s v t
  | 0, _, _, _, h => h.elim
  | d + 1, s, v, .node s' l, h => by
    obtain ⟨h1, a, c, h2, h3, h4⟩ := h
    refine ⟨h1, a, c, h2, h3, fun i hi => ?_⟩
    obtain ⟨b, off, s1, v1, t1, q1, q2, q3, q4, q5, q6⟩ := h4 i hi
    exact ⟨b, off, s1, v1, t1, q1, id, q3, q4, q5, TreeIn.freeD q6⟩
theorem TreeIn.raiseD {M : Nat → Prop} {w : World} {d d' : Nat} {s : Int} {v : Value} {t : Tr} (h : TreeIn M w d s v t) (hd : d ≤ d') : TreeIn M w d' s v t := by
  induction hd with
  | refl => exact h
  | step _ ih => exact TreeIn.upD ih
mutual
theorem treeIn_of {M : Nat → Prop} {w : World} : ∀ (t : Tr), TSm t → ∀ (u v : Value), RepL M w none (treeC t) [u, v] → ∃ s, u = .int .i64 s ∧ TreeIn M w (depT t) s v t
  | .node s l, hs, u, v, h => by
    rw [TSm] at hs
    rw [treeC] at h
    simp only [intD, RepL, Rep, List.cons.injEq] at h
    obtain ⟨u1, us1, ⟨rfl, rfl⟩, rfl, u2, us2, ⟨rfl, rfl⟩, ⟨a, cap, rfl, h2, -, h4, h5, h6⟩, -⟩ := h
    refine ⟨s, rfl, ?_⟩
    rw [depT]
    refine ⟨rfl, a, cap, rfl, hs.1, fun i hi => ?_⟩
    rcases h6 with h6 | ⟨b, off, rfl, h7, h8⟩
    · omega
    · obtain ⟨s1, v1, q1, q2, q3⟩ := kidsIn_of l hs.2 b off h8 i l[i] (by simp)
      exact ⟨b, off, s1, v1, l[i], rfl, h7, by simp, q1, q2, q3⟩
theorem kidsIn_of {M : Nat → Prop} {w : World} : ∀ (l : List Tr), TSmL l → ∀ (b off : Nat), RepC M w b off (kidsC l) → ∀ (i : Nat) (t : Tr), l[i]? = some t → ∃ s1 v1, w.cell? ⟨b, off + i * 2, none⟩ = some (.int .i64 s1) ∧ w.cell? ⟨b, off + i * 2 + 1, none⟩ = some v1 ∧ TreeIn M w (depL l) s1 v1 t
  | [], _, _, _, _, i, t, ht => by simp at ht
  | x :: xs, hs, b, off, h, i, t, ht => by
    rw [TSmL] at hs
    rw [kidsC] at h
    cases i with
    | zero =>
      simp at ht; subst ht
      obtain ⟨u0, c0, r0⟩ := h.get 0 (d := (treeC x)[0]'(by rw [treeC_two]; omega)) (by rw [List.getElem?_append_left (by rw [treeC_two]; omega)]; simp)
      obtain ⟨u1, c1, r1⟩ := h.get 1 (d := (treeC x)[1]'(by rw [treeC_two]; omega)) (by rw [List.getElem?_append_left (by rw [treeC_two]; omega)]; simp)
      have hr : RepL M w none (treeC x) [u0, u1] := by
        refine RepL.of (by rw [treeC_two]; rfl) fun i d u hd hu => ?_
        rcases (show i = 0 ∨ i = 1 ∨ 2 ≤ i by omega) with rfl | rfl | h2
        · simp at hu; subst hu; rw [List.getElem?_eq_getElem (by rw [treeC_two]; omega)] at hd; cases hd; exact r0
        · simp at hu; subst hu; rw [List.getElem?_eq_getElem (by rw [treeC_two]; omega)] at hd; cases hd; exact r1
        · rw [List.getElem?_eq_none (by rw [treeC_two]; omega)] at hd; cases hd
      obtain ⟨s, rfl, hin⟩ := treeIn_of x hs.1 u0 u1 hr
      refine ⟨s, u1, by simpa using c0, by simpa using c1, TreeIn.raiseD hin (by rw [depL]; omega)⟩
    | succ i =>
      have h' : RepC M w b (off + 2) (kidsC xs) := RepC.of fun j d hj => by
        obtain ⟨u, q1, q2⟩ := h.get (j + 2) (d := d) (by rw [List.getElem?_append_right (by rw [treeC_two]; omega), treeC_two]; simpa using hj)
        exact ⟨u, by rw [show off + 2 + j = off + (j + 2) by omega]; exact q1, q2⟩
      obtain ⟨s1, v1, q1, q2, q3⟩ := kidsIn_of xs hs.2 b (off + 2) h' i t (by simpa using ht)
      exact ⟨s1, v1, by rw [show off + (i + 1) * 2 = off + 2 + i * 2 by omega]; exact q1, by rw [show off + (i + 1) * 2 + 1 = off + 2 + i * 2 + 1 by omega]; exact q2, TreeIn.raiseD q3 (by rw [depL]; omega)⟩
end
theorem tree_in {M : Nat → Prop} {w : World} {v : Value} {t : Tr} (hs : TSm t) (h : Rep M w none (treeD t) v) : ∃ s u, v = .agg #[.int .i64 s, u] ∧ TreeIn (fun _ => False) w (depT t) s u t := by
  unfold treeD at h
  simp only [Rep] at h
  obtain ⟨vs, rfl, h⟩ := h
  have hl := h.length
  rw [treeC_two] at hl
  match vs, hl with
  | [u, v], _ =>
    obtain ⟨s, rfl, hin⟩ := treeIn_of t hs u v h
    exact ⟨s, v, rfl, TreeIn.freeD hin⟩

theorem repC_kids {M : Nat → Prop} {w : World} {b : Nat} : ∀ {l : List Tr} {off : Nat}, (∀ (i : Nat) t, l[i]? = some t → ∃ c0 c1, w.cell? ⟨b, off + i * 2, none⟩ = some c0 ∧ w.cell? ⟨b, off + i * 2 + 1, none⟩ = some c1 ∧ RepL M w none (treeC t) [c0, c1]) → RepC M w b off (kidsC l)
  | [], off, _ => by rw [kidsC]; simp only [RepC]
  | x :: xs, off, h => by
    rw [kidsC]
    obtain ⟨c0, c1, q0, q1, q2⟩ := h 0 x (by simp)
    have hr : RepC M w b (off + 2) (kidsC xs) := repC_kids fun i t hi => by
      obtain ⟨c0, c1, q0, q1, q2⟩ := h (i + 1) t (by simpa using hi)
      exact ⟨c0, c1, by rw [show off + 2 + i * 2 = off + (i + 1) * 2 by omega]; exact q0, by rw [show off + 2 + i * 2 + 1 = off + (i + 1) * 2 + 1 by omega]; exact q1, q2⟩
    cases x with
    | node s l =>
      rw [treeC] at q2 ⊢
      simp only [RepL, List.cons.injEq] at q2
      obtain ⟨u1, us1, ⟨rfl, rfl⟩, r1, u2, us2, ⟨rfl, rfl⟩, r2, -⟩ := q2
      simp only [List.cons_append, List.nil_append, RepC]
      exact ⟨⟨_, by simpa using q0, r1⟩, ⟨_, by simpa using q1, r2⟩, hr⟩
end Go.Proofs.Ytdakoccbmeojhaa
/- How a tree is opened, as data. Condition: no slice in it takes more memory than there is. -/
set_option linter.unusedSimpArgs false
set_option linter.unusedVariables false
set_option maxHeartbeats 400000
namespace Go.Proofs.Ytdakoccbmeojhaa
open Go Go.RowKit Go.PP Go.Dm Go.Deep

theorem weights_allD {H : Type} {P : Program} {e : TypeId} : ∀ {ds : List (DataW H)} {d : DataW H}, d ∈ ds → ∀ n ∈ d.weights P e, n ∈ DataW.weightsAll P e ds
  | d0 :: ds, d, hd, n, hn => by
    simp only [DataW.weightsAll, List.mem_append]
    rcases List.mem_cons.1 hd with rfl | hd
    · exact .inl hn
    · exact .inr (weights_allD hd n hn)
  | [], _, hd, _, _ => by simp at hd
instance : Inhabited Tr := ⟨.node 0 []⟩
section
variable {H : Type} {enc : TypeId × Value → H} {w : World} {base : Nat} {held : Bool}
set_option maxRecDepth 100000 in
theorem open_treeD : ∀ (fuel : Nat) {cs : List Value} {x : DataW H × List MemPlace}, DataW.trod enc Try.prog w base (fun _ => true) held fuel 29 cs = some x → (∀ n ∈ x.1.weights Try.prog 29, n ≤ reachBytes) →
    ∃ c0 c1 t, cs = [c0, c1] ∧ RepL (fun _ => False) w none (treeC t) [c0, c1] ∧ TSm t := by
  intro fuel
  induction fuel using Nat.strongRecOn with
  | _ fuel ih =>
    intro cs x h hw
    obtain ⟨xs, m, rfl, hx, hl, hsz, hi⟩ := DataW.trod_struct Try.underlying29 h
    have cT : Try.prog.cellsOf 29 = 2 := by kernel_rfl
    have cS : Try.prog.cellsOf 27 = 1 := by kernel_rfl
    have cI : Try.prog.cellsOf 3 = 1 := by kernel_rfl
    have bT : Try.prog.bytesOf 29 = 32 := by kernel_rfl
    rw [cT] at hl
    match cs, hl with
    | [c0, c1], _ =>
      have g0 : DataW.trod enc Try.prog w base (fun _ => true) held m 3 ((([c0, c1] : List Value).drop 0).take (Try.prog.cellsOf 3)) = xs[0]? := hi 0 _ rfl
      have g1 : DataW.trod enc Try.prog w base (fun _ => true) held m 27 ((([c0, c1] : List Value).drop 1).take (Try.prog.cellsOf 27)) = xs[1]? := hi 1 _ rfl
      have hx2 : xs.length = 2 := hsz
      obtain ⟨y0, y1, rfl⟩ : ∃ y0 y1, xs = [y0, y1] := by
        match xs, hx2 with
        | [y0, y1], _ => exact ⟨y0, y1, rfl⟩
      rw [cI] at g0
      rw [cS] at g1
      have g0' : DataW.trod enc Try.prog w base (fun _ => true) held m 3 [c0] = some y0 := g0
      have g1' : DataW.trod enc Try.prog w base (fun _ => true) held m 27 [c1] = some y1 := g1
      obtain ⟨z, hz, -⟩ := DataW.trod_int Try.underlying3 g0'
      simp only [List.cons.injEq, and_true] at hz
      subst hz
      have hwe : ∀ n ∈ y1.1.weights Try.prog 27, n ≤ reachBytes := fun n hn => hw n (by
        rw [hx]
        simp only [DataW.weights, Try.underlying29]
        exact DataW.weights_mem_each (j := 1) (t := 27) (d := y1.1) rfl rfl n hn)
      rcases DataW.trod_slice Try.underlying27 g1' with ⟨hc, _⟩ | ⟨a, len, cap, elems, rest, k, rfl, hc, hxx, hb, hle, hmx, hel, hee, _, _⟩
      · simp only [List.cons.injEq, and_true] at hc
        subst hc
        refine ⟨_, _, .node z [], rfl, ?_, ?_⟩
        · rw [treeC]
          simp only [intD, RepL, Rep]
          exact ⟨_, _, rfl, rfl, _, _, rfl, ⟨none, 0, rfl, by simp, fun h => (by cases h), by rw [kidsC]; rfl, by simp, .inl (by simp)⟩, rfl⟩
        · rw [TSm]; exact ⟨by simp, by rw [TSmL]; trivial⟩
      · simp only [List.cons.injEq, and_true] at hc
        subst hc
        have hlen : len * 32 ≤ 140737488351232 := by
          have := hwe ((elems.length + rest.length) * 32) (by rw [hxx]; simp [DataW.weights, Try.underlying27, bT])
          have h2 : reachBytes = 140737488351232 := by decide
          rw [h2, hel] at this
          have h3 : len * 32 ≤ (len + rest.length) * 32 := Nat.mul_le_mul_right _ (by omega)
          omega
        have each : ∀ i, i < len → ∃ y : (Value × Value) × Tr, w.cell? (a.add (i * 2)) = some y.1.1 ∧ w.cell? (a.add (i * 2 + 1)) = some y.1.2 ∧ RepL (fun _ => False) w none (treeC y.2) [y.1.1, y.1.2] ∧ TSm y.2 := by
          intro i hi
          have he := hee i hi
          rw [cT, List.getElem?_eq_getElem (by omega)] at he
          obtain ⟨cs', h1, h2⟩ := Option.bind_eq_some_iff.1 he
          obtain ⟨hlen', hcell⟩ := (World.cells?_some h1).2
          obtain ⟨s1, v1, t1, hcs, htr, hts⟩ := ih k (by omega) h2 (fun n hn => hwe n (by
            rw [hxx]
            simp only [DataW.weights, Try.underlying27, List.mem_cons, List.mem_append]
            exact .inr (.inl (weights_allD (List.mem_map.2 ⟨_, List.getElem_mem (by omega), rfl⟩) n hn))))
          subst hcs
          refine ⟨((s1, v1), t1), ?_, ?_, htr, hts⟩
          · have := hcell 0 (by omega); rw [add_add] at this; simpa using this
          · have := hcell 1 (by omega); rw [add_add] at this; simpa using this
        obtain ⟨f, hf⟩ := choose_lt each
        refine ⟨_, _, .node z ((List.range len).map fun i => (f i).2), rfl, ?_, ?_⟩
        rotate_left
        · rw [TSm]
          refine ⟨by simpa using hlen, TSmL.of fun i t hit => ?_⟩
          have hi' : i < len := by have := (List.getElem?_eq_some_iff.1 hit).1; simpa using this
          simp [hi'] at hit
          rw [← hit]
          exact (hf i hi').2.2.2
        rw [treeC]
        simp only [intD, RepL, Rep]
        refine ⟨_, _, rfl, rfl, _, _, rfl, ⟨some a, cap, by simp, by simpa using hle, fun h => (by cases h), by rw [kidsC_len], by simp; omega, ?_⟩, rfl⟩
        by_cases hl0 : len = 0
        · exact .inl (by simp [hl0])
        obtain ⟨b, off, spot⟩ := a
        have hspot : spot = none := by
          have := World.cell?_spot (hf 0 (by omega)).1
          simpa [Addr.add] using this
        subst hspot
        refine .inr ⟨b, off, rfl, id, repC_kids fun i t hit => ?_⟩
        have hi' : i < len := by have := (List.getElem?_eq_some_iff.1 hit).1; simpa using this
        simp [hi'] at hit
        obtain ⟨h1, h2, h3, _⟩ := hf i hi'
        refine ⟨(f i).1.1, (f i).1.2, ?_, ?_, by rw [← hit]; exact h3⟩
        · rw [show (⟨b, off, none⟩ : Addr).add (i * 2) = ⟨b, off + i * 2, none⟩ from by unfold Addr.add; split <;> simp_all] at h1; exact h1
        · rw [show (⟨b, off, none⟩ : Addr).add (i * 2 + 1) = ⟨b, off + i * 2 + 1, none⟩ from by unfold Addr.add; split <;> simp_all [Nat.add_assoc]] at h2; exact h2
end
end Go.Proofs.Ytdakoccbmeojhaa
