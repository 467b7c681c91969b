/- A machine over data: what the operations do. No condition. -/
import Derived.Test.YtichhfbkhnimmaaXC

set_option linter.unusedSimpArgs false
set_option linter.unusedVariables false
set_option linter.unusedSectionVars false
set_option maxHeartbeats 400000
namespace Go.Dm
open Go Go.RowKit Go.PP
variable [GlobW] [Rnd]
section
variable {P : Program} {N : Nat} {dst : Option Tmp} {ty : TypeId} {pos : String} {af : Array Edge} {gd : Option (Nat × Bool)}
theorem Vals.one {M : Nat → Prop} {w : World} {G : Cx} {ρ : Operand → Value} {x : Operand} {v : Value} {r : List (Operand × D)} (h : Vals M w G ρ ((x, .flat v) :: r)) : ρ x = v := by
  have := h.1
  simpa only [Rep] using this
theorem T.move (x : Operand) (d : D) : Tri P N ⟨dst, .move x, ty, pos, af, gd⟩ [(x, d)] [] d [] := Tri.val fun M w G ρ h => ⟨ρ x, rfl, h.1⟩
theorem T.assign (x : Operand) (d : D) : Tri P N ⟨dst, .assign x, ty, pos, af, gd⟩ [(x, d)] [] d [] := Tri.val fun M w G ρ h => ⟨ρ x, rfl, h.1⟩
theorem run_bin {op : BinOp} {k : IntKind} {a b : Int} {v : Value} {t : TypeId} {x y : Operand} (w : World) (h : (binOp op t (.int k a) (.int k b)).run P w = .ok v w) (ρ : Operand → Value) (hx : ρ x = .int k a) (hy : ρ y = .int k b) (ty' : TypeId) :
    (execOp ρ ⟨dst, .binOp op t x y ty', ty, pos, af, gd⟩).run P w = .ok (.value v) w := by
  simp only [execOp, hx, hy, Sem.run_bind]
  have : (eqGuard op t x y (.int k a) (.int k b)).run P w = .ok () w := by
    unfold eqGuard; split <;> rfl
  rw [this]
  simp only [Result.andThen_ok, h, Sem.run_pure]
theorem T.bin {op : BinOp} {k : IntKind} {a b : Int} {v : Value} (t ty' : TypeId) (x y : Operand) (h : ∀ w, (binOp op t (.int k a) (.int k b)).run P w = .ok v w) :
    Tri P N ⟨dst, .binOp op t x y ty', ty, pos, af, gd⟩ [(x, .flat (.int k a)), (y, .flat (.int k b))] [] (.flat v) [] :=
  Tri.val fun M w G ρ hv => ⟨v, run_bin w (h w) ρ hv.one hv.2.one ty', by simp only [Rep]⟩
theorem T.add {k : IntKind} {a b c : Int} (t ty' : TypeId) (x y : Operand) (h : k.wrap (a + b) = c) : Tri P N ⟨dst, .binOp .add t x y ty', ty, pos, af, gd⟩ [(x, .flat (.int k a)), (y, .flat (.int k b))] [] (.flat (.int k c)) [] :=
  T.bin t ty' x y fun w => by simp [binOp, Op.intArith, h]
theorem T.sub {k : IntKind} {a b c : Int} (t ty' : TypeId) (x y : Operand) (h : k.wrap (a - b) = c) : Tri P N ⟨dst, .binOp .sub t x y ty', ty, pos, af, gd⟩ [(x, .flat (.int k a)), (y, .flat (.int k b))] [] (.flat (.int k c)) [] :=
  T.bin t ty' x y fun w => by simp [binOp, Op.intArith, h]
theorem T.mul {k : IntKind} {a b c : Int} (t ty' : TypeId) (x y : Operand) (h : k.wrap (a * b) = c) : Tri P N ⟨dst, .binOp .mul t x y ty', ty, pos, af, gd⟩ [(x, .flat (.int k a)), (y, .flat (.int k b))] [] (.flat (.int k c)) [] :=
  T.bin t ty' x y fun w => by simp [binOp, Op.intArith, h]
theorem T.quo {k : IntKind} {a b c : Int} (t ty' : TypeId) (x y : Operand) (h0 : b ≠ 0) (h : k.wrap (a.tdiv b) = c) : Tri P N ⟨dst, .binOp .quo t x y ty', ty, pos, af, gd⟩ [(x, .flat (.int k a)), (y, .flat (.int k b))] [] (.flat (.int k c)) [] :=
  T.bin t ty' x y fun w => by simp [binOp, Op.intDiv, h, h0]
theorem T.rem {k : IntKind} {a b c : Int} (t ty' : TypeId) (x y : Operand) (h0 : b ≠ 0) (h : a.tmod b = c) : Tri P N ⟨dst, .binOp .rem t x y ty', ty, pos, af, gd⟩ [(x, .flat (.int k a)), (y, .flat (.int k b))] [] (.flat (.int k c)) [] :=
  T.bin t ty' x y fun w => by simp [binOp, Op.intDiv, h, h0]
theorem T.lss {k : IntKind} {a b : Int} (t ty' : TypeId) (x y : Operand) : Tri P N ⟨dst, .binOp .lss t x y ty', ty, pos, af, gd⟩ [(x, .flat (.int k a)), (y, .flat (.int k b))] [] (.flat (.bool (decide (a < b)))) [] :=
  T.bin t ty' x y fun w => by simp [binOp, Op.intCmp]
theorem T.leq {k : IntKind} {a b : Int} (t ty' : TypeId) (x y : Operand) : Tri P N ⟨dst, .binOp .leq t x y ty', ty, pos, af, gd⟩ [(x, .flat (.int k a)), (y, .flat (.int k b))] [] (.flat (.bool (decide (a ≤ b)))) [] :=
  T.bin t ty' x y fun w => by simp [binOp, Op.intCmp]
theorem T.gtr {k : IntKind} {a b : Int} (t ty' : TypeId) (x y : Operand) : Tri P N ⟨dst, .binOp .gtr t x y ty', ty, pos, af, gd⟩ [(x, .flat (.int k a)), (y, .flat (.int k b))] [] (.flat (.bool (decide (b < a)))) [] :=
  T.bin t ty' x y fun w => by simp [binOp, Op.intCmp]
theorem T.geq {k : IntKind} {a b : Int} (t ty' : TypeId) (x y : Operand) : Tri P N ⟨dst, .binOp .geq t x y ty', ty, pos, af, gd⟩ [(x, .flat (.int k a)), (y, .flat (.int k b))] [] (.flat (.bool (decide (b ≤ a)))) [] :=
  T.bin t ty' x y fun w => by simp [binOp, Op.intCmp]
theorem T.eql {k : IntKind} {a b : Int} (t ty' : TypeId) (x y : Operand) : Tri P N ⟨dst, .binOp .eql t x y ty', ty, pos, af, gd⟩ [(x, .flat (.int k a)), (y, .flat (.int k b))] [] (.flat (.bool (decide (a = b)))) [] :=
  T.bin t ty' x y fun w => by simp [binOp, Op.intCmp]; rfl
theorem T.neq {k : IntKind} {a b : Int} (t ty' : TypeId) (x y : Operand) : Tri P N ⟨dst, .binOp .neq t x y ty', ty, pos, af, gd⟩ [(x, .flat (.int k a)), (y, .flat (.int k b))] [] (.flat (.bool (decide (a ≠ b)))) [] :=
  T.bin t ty' x y fun w => by simp [binOp, Op.intCmp, bne]; rfl
theorem T.not {b : Bool} (t : TypeId) (x : Operand) : Tri P N ⟨dst, .unOp .not t x, ty, pos, af, gd⟩ [(x, .flat (.bool b))] [] (.flat (.bool (!b))) [] :=
  Tri.val fun M w G ρ h => ⟨.bool (!b), by simp [execOp, h.one, Op.unary], by simp only [Rep]⟩
theorem T.extract {ds : List D} {d : D} (x : Operand) (i : Nat) (h : ds[i]? = some d) : Tri P N ⟨dst, .extract x i, ty, pos, af, gd⟩ [(x, .tup ds)] [] d [] := Tri.val fun M w G ρ hv => by
  have h1 := hv.1
  simp only [Rep] at h1
  obtain ⟨vs, q1, q2⟩ := h1
  obtain ⟨u, hu, hr⟩ := q2.get i h
  exact ⟨u, by simp [execOp, q1, Instr.extract, hu], hr⟩
def aggOf (P : Program) (t : TypeId) : Option Bool := (P.underlying t).map fun d => match d with
  | .struct _ | .array _ _ => true
  | _ => false
def sizeOfT (P : Program) (t : TypeId) : Option Nat := (P.info? t).map (·.size)
theorem run_isAgg {t : TypeId} {b : Bool} (h : aggOf P t = some b) (w : World) : (isAgg t).run P w = .ok b w := by
  unfold aggOf at h
  obtain ⟨d, hd, rfl⟩ := Option.map_eq_some_iff.1 h
  simp only [isAgg, Go.underlying, Sem.run_bind, run_program, Result.andThen_ok, hd, Sem.run_pure]
  cases d <;> rfl
theorem run_sizeOf {t : TypeId} {n : Nat} (h : sizeOfT P t = some n) (w : World) : (sizeOf t).run P w = .ok n w := by
  unfold sizeOfT at h
  obtain ⟨d, hd, rfl⟩ := Option.map_eq_some_iff.1 h
  simp only [sizeOf, typeInfo, Sem.run_bind, run_program, Result.andThen_ok, hd, Sem.run_pure]
theorem run_underlying {t : TypeId} {d : TypeDesc} (h : P.underlying t = some d) (w : World) : (Go.underlying t).run P w = .ok d w := by
  simp only [Go.underlying, Sem.run_bind, run_program, Result.andThen_ok, h, Sem.run_pure]
def partD (agg : Bool) (n off : Nat) (cs : List D) : Option D := if agg then (if off + n ≤ cs.length then some (.agg ((cs.drop off).take n)) else none) else cs[off]?
theorem RepL.drop {M : Nat → Prop} {w : World} {G : Cx} : ∀ {ds : List D} {vs : List Value} (k : Nat), RepL M w G ds vs → RepL M w G (ds.drop k) (vs.drop k)
  | ds, vs, 0, h => by simpa using h
  | [], vs, k + 1, h => by simp only [RepL] at h; subst h; simp [RepL]
  | d :: ds, vs, k + 1, h => by
    simp only [RepL] at h
    obtain ⟨u, us, rfl, _, h3⟩ := h
    simpa using RepL.drop k h3
theorem RepL.take {M : Nat → Prop} {w : World} {G : Cx} : ∀ {ds : List D} {vs : List Value} (k : Nat), RepL M w G ds vs → RepL M w G (ds.take k) (vs.take k)
  | ds, vs, 0, h => by simp [RepL]
  | [], vs, k + 1, h => by simp only [RepL] at h; subst h; simp [RepL]
  | d :: ds, vs, k + 1, h => by
    simp only [RepL] at h
    obtain ⟨u, us, rfl, h2, h3⟩ := h
    simp only [List.take_succ_cons, RepL]
    exact ⟨u, us.take k, rfl, h2, RepL.take k h3⟩
theorem run_part {M : Nat → Prop} {w : World} {G : Cx} {t : TypeId} {b : Bool} {n off : Nat} {cs : List D} {vs : List Value} {d : D} (hb : aggOf P t = some b) (hn : sizeOfT P t = some n) (h : partD b n off cs = some d) (hv : RepL M w G cs vs) :
    ∃ v, (part t vs.toArray off).run P w = .ok v w ∧ Rep M w G d v := by
  unfold partD at h
  cases b with
  | true =>
    rw [if_pos rfl] at h
    split at h
    · cases h
      refine ⟨.agg ((vs.drop off).take n).toArray, ?_, ?_⟩
      · simp only [part, Sem.run_bind, run_isAgg hb, Result.andThen_ok, if_true, run_sizeOf hn, Sem.run_pure]
        congr 3
        simp [List.drop_take, Nat.add_sub_cancel_left]
      · simp only [Rep]
        exact ⟨_, rfl, (hv.drop off).take n⟩
    · cases h
  | false =>
    simp only [Bool.false_eq_true, if_false] at h
    obtain ⟨u, hu, hr⟩ := hv.get off h
    exact ⟨u, by simp [part, run_isAgg hb, hu], hr⟩
theorem T.field {fs : Array Field} {f : Field} {b : Bool} {n : Nat} {cs : List D} {d : D} (t : TypeId) (x : Operand) (i : Nat) (ht : P.underlying t = some (.struct fs)) (hf : fs[i]? = some f) (hb : aggOf P f.type = some b) (hn : sizeOfT P f.type = some n)
    (h : partD b n f.offset cs = some d) : Tri P N ⟨dst, .field t x i, ty, pos, af, gd⟩ [(x, .agg cs)] [] d [] := Tri.val fun M w G ρ hv => by
  have h1 := hv.1
  simp only [Rep] at h1
  obtain ⟨vs, q1, q2⟩ := h1
  obtain ⟨u, hu, hr⟩ := run_part (P := P) hb hn h q2
  exact ⟨u, by simp only [execOp, q1, Instr.field, Sem.run_bind, run_underlying ht, Result.andThen_ok, hf, asAgg, Sem.run_pure, hu], hr⟩
end
end Go.Dm

set_option linter.unusedSimpArgs false
set_option linter.unusedVariables false
set_option linter.unusedSectionVars false
set_option maxHeartbeats 400000
namespace Go.Dm
open Go Go.RowKit Go.PP
variable [GlobW] [Rnd]
def oneD : D → Bool
  | .flat v => v.oneCell'
  | .sl .. | .ptr .. | .own .. | .ref .. | .elp .. | .clo .. | .bsl .. | .mp .. | .ifn | .yl .. => true
  | _ => false
theorem Rep.oneC {M : Nat → Prop} {w : World} {G : Cx} {d : D} {u : Value} (h : oneD d = true) (hv : Rep M w G d u) : u.oneCell' = true ∧ u.cells = #[u] := by
  cases d with
  | any => simp [oneD] at h
  | flat v =>
    simp only [Rep] at hv
    subst hv
    simp only [oneD] at h
    refine ⟨h, ?_⟩
    cases u <;> first | rfl | (simp [Value.oneCell'] at h)
  | agg cs => simp [oneD] at h
  | tup cs => simp [oneD] at h
  | sl f n l cs => simp only [Rep] at hv; obtain ⟨a, c, rfl, _⟩ := hv; exact ⟨rfl, rfl⟩
  | ptr cs o => simp only [Rep] at hv; obtain ⟨a, c, rfl, _⟩ := hv; exact ⟨rfl, rfl⟩
  | own id L => simp only [Rep] at hv; obtain ⟨_, _, _, _, _, _, _, _, _, _, a, c, rfl⟩ := hv; exact ⟨rfl, rfl⟩
  | ref id o => simp only [Rep] at hv; obtain ⟨_, _, _, _, _, rfl⟩ := hv; exact ⟨rfl, rfl⟩
  | elp id L o => simp only [Rep] at hv; obtain ⟨_, _, _, _, _, _, _, _, _, _, a, rfl⟩ := hv; exact ⟨rfl, rfl⟩
  | clo f a b => simp only [Rep] at hv; obtain ⟨_, _, rfl, _⟩ := hv; exact ⟨rfl, rfl⟩
  | keys ks => simp [oneD] at h
  | lrec r => simp [oneD] at h
  | typ t => simp [oneD] at h
  | yl id => simp only [Rep] at hv; obtain ⟨_, _, _, _, _, rfl⟩ := hv; exact ⟨rfl, rfl⟩
  | bsl id o l c => simp only [Rep] at hv; obtain ⟨_, _, _, _, _, rfl⟩ := hv; exact ⟨rfl, rfl⟩
  | mp id => simp only [Rep] at hv; obtain ⟨_, _, _, _, _, rfl⟩ := hv; exact ⟨rfl, rfl⟩
  | ifn => simp only [Rep] at hv; obtain ⟨_, _, rfl⟩ := hv; exact ⟨rfl, rfl⟩
def oneL : List D → Bool
  | [] => true
  | d :: ds => oneD d && oneL ds
theorem RepL.one {M : Nat → Prop} {w : World} {G : Cx} : ∀ {ds : List D} {vs : List Value}, oneL ds = true → RepL M w G ds vs → ∀ v ∈ vs, v.oneCell' = true
  | [], vs, _, h => by simp only [RepL] at h; subst h; simp
  | d :: ds, vs, ho, h => by
    simp only [oneL, Bool.and_eq_true] at ho
    simp only [RepL] at h
    obtain ⟨u, us, rfl, h2, h3⟩ := h
    intro v hv
    rcases List.mem_cons.1 hv with rfl | hv
    · exact (Rep.oneC ho.1 h2).1
    · exact RepL.one ho.2 h3 v hv
def cellsD : D → Option (List D)
  | .agg cs => some cs
  | d => if oneD d then some [d] else none
theorem cellsD_rep {M : Nat → Prop} {w : World} {G : Cx} {d : D} {u : Value} {cs : List D} (h : cellsD d = some cs) (hv : Rep M w G d u) : ∃ vs : List Value, u.cells = vs.toArray ∧ RepL M w G cs vs := by
  have key : oneD d = true → cs = [d] → ∃ vs : List Value, u.cells = vs.toArray ∧ RepL M w G cs vs := fun h1 h2 => by
    subst h2
    exact ⟨[u], (Rep.oneC h1 hv).2, by simp only [RepL]; exact ⟨u, [], rfl, hv, rfl⟩⟩
  cases d with
  | agg cs' =>
    simp only [cellsD, Option.some.injEq] at h
    subst h
    simp only [Rep] at hv
    obtain ⟨vs, rfl, h2⟩ := hv
    exact ⟨vs, rfl, h2⟩
  | _ =>
    simp only [cellsD] at h
    split at h
    · rename_i h1
      exact key h1 (by cases h; rfl)
    · cases h
def flats (vs : Array Value) : List D := vs.toList.map .flat
theorem keysOf_flats (vs : Array Value) : keysOf (flats vs) = none := by
  unfold flats
  cases vs.toList <;> rfl
theorem keysOf_one {cs : List D} (h : oneL cs = true) : keysOf cs = none := by
  cases cs with
  | nil => rfl
  | cons d r => cases d <;> first | rfl | (simp [oneL, oneD] at h)
theorem flats_rep {M : Nat → Prop} {w : World} {G : Cx} (vs : Array Value) : RepL M w G (flats vs) vs.toList := by
  unfold flats
  induction vs.toList with
  | nil => simp [RepL]
  | cons v r ih => simp only [List.map_cons, RepL]; exact ⟨v, r, rfl, by simp only [Rep], ih⟩
theorem RepL.append {M : Nat → Prop} {w : World} {G : Cx} : ∀ {ds es : List D} {vs us : List Value}, RepL M w G ds vs → RepL M w G es us → RepL M w G (ds ++ es) (vs ++ us)
  | [], es, vs, us, h, h2 => by simp only [RepL] at h; subst h; simpa using h2
  | d :: ds, es, vs, us, h, h2 => by
    simp only [RepL] at h
    obtain ⟨u, us', rfl, h3, h4⟩ := h
    simp only [List.cons_append, RepL]
    exact ⟨u, us' ++ us, rfl, h3, RepL.append h4 h2⟩
def spliceD {α : Type} (cs : List α) (off : Nat) (ds : List α) : List α := cs.take off ++ ds ++ cs.drop (off + ds.length)
theorem RepL.splice {M : Nat → Prop} {w : World} {G : Cx} {cs ds : List D} {vs us : List Value} {off : Nat} (h : RepL M w G cs vs) (h2 : RepL M w G ds us) : RepL M w G (spliceD cs off ds) (spliceD vs off us) := by
  unfold spliceD
  rw [h2.length]
  exact RepL.append (RepL.append (h.take off) h2) (h.drop _)
theorem keysOf_splice {cs ds : List D} {off : Nat} (h : keysOf cs = none) (ho : oneL ds = true) : keysOf (spliceD cs off ds) = none := by
  unfold spliceD
  cases cs with
  | nil =>
    simp only [List.take_nil, List.nil_append, List.drop_nil, List.append_nil]
    exact keysOf_one ho
  | cons c r =>
    cases off with
    | zero =>
      cases ds with
      | nil => simpa using h
      | cons d ds =>
        simp only [List.take_zero, List.nil_append, List.cons_append]
        cases d <;> first | rfl | (simp [oneL, oneD] at ho)
    | succ off =>
      simp only [List.take_succ_cons, List.cons_append]
      cases c <;> first | rfl | (simp [keysOf] at h)
theorem splice_len {α : Type} {cs ds : List α} {off : Nat} (h : off + ds.length ≤ cs.length) : (spliceD cs off ds).length = cs.length := by
  unfold spliceD; simp; omega
theorem splice_get {α : Type} {cs ds : List α} {off : Nat} (h : off + ds.length ≤ cs.length) (k : Nat) : (spliceD cs off ds)[k]? = if k < off then cs[k]? else if k < off + ds.length then ds[k - off]? else cs[k]? := by
  unfold spliceD
  have hl : (cs.take off).length = off := by simp; omega
  by_cases h1 : k < off
  · rw [if_pos h1, List.append_assoc, List.getElem?_append_left (by omega), List.getElem?_take, if_pos h1]
  · rw [if_neg h1, List.append_assoc, List.getElem?_append_right (by omega), hl]
    by_cases h2 : k < off + ds.length
    · rw [if_pos h2, List.getElem?_append_left (by omega)]
    · rw [if_neg h2, List.getElem?_append_right (by omega), List.getElem?_drop]
      congr 1; omega
theorem foldl_set {α : Type} (off : Nat) : ∀ (us : List α) (cs : Array α) (i : Nat), ((us.zipIdx i).foldl (fun cs (p : α × Nat) => cs.setIfInBounds (off + p.2) p.1) cs).size = cs.size ∧
    ∀ k, ((us.zipIdx i).foldl (fun cs (p : α × Nat) => cs.setIfInBounds (off + p.2) p.1) cs)[k]? = if off + i ≤ k ∧ k < off + i + us.length ∧ k < cs.size then us[k - (off + i)]? else cs[k]?
  | [], cs, i => by simp; intro k h1 h2; omega
  | u :: us, cs, i => by
    obtain ⟨h1, h2⟩ := foldl_set off us (cs.setIfInBounds (off + i) u) (i + 1)
    simp only [List.zipIdx_cons, List.foldl_cons]
    refine ⟨by rw [h1]; simp, fun k => ?_⟩
    rw [h2]
    simp only [Array.size_setIfInBounds, List.length_cons]
    by_cases e : k = off + i
    · subst e
      rw [if_neg (by omega)]
      by_cases hk : off + i < cs.size
      · rw [if_pos (by omega)]; simp [hk]
      · rw [if_neg (by omega)]; simp [hk]
    · by_cases h3 : off + (i + 1) ≤ k ∧ k < off + (i + 1) + us.length ∧ k < cs.size
      · rw [if_pos h3, if_pos (by omega)]
        rw [show k - (off + i) = (k - (off + (i + 1))) + 1 by omega]; simp
      · rw [if_neg h3, if_neg (by omega), Array.getElem?_setIfInBounds, if_neg (fun h => e h.symm)]
theorem foldl_splice {α : Type} (off : Nat) (us : List α) (cs : Array α) (h : off + us.length ≤ cs.size) : (us.toArray.zipIdx.foldl (fun cs (x : α × Nat) => cs.setIfInBounds (off + x.2) x.1) cs).toList = spliceD cs.toList off us := by
  obtain ⟨h1, h2⟩ := foldl_set off us cs 0
  have e : us.toArray.zipIdx.foldl (fun cs (x : α × Nat) => cs.setIfInBounds (off + x.2) x.1) cs = (us.zipIdx 0).foldl (fun cs (p : α × Nat) => cs.setIfInBounds (off + p.2) p.1) cs := by
    rw [← Array.foldl_toList]; simp
  rw [e]
  apply List.ext_getElem?
  intro k
  rw [Array.getElem?_toList, h2, splice_get (by simpa using h)]
  simp only [Nat.add_zero, Array.getElem?_toList]
  by_cases h3 : k < off
  · rw [if_neg (by omega), if_pos h3]
  · rw [if_neg h3]
    by_cases h4 : k < off + us.length
    · rw [if_pos (by omega), if_pos h4]
    · rw [if_neg (by omega), if_neg h4]
def fillD (place : Nat → Option (Nat × Nat)) (cells : List D) : List (Nat × D) → Option (List D)
  | [] => some cells
  | (i, d) :: r => match place i, cellsD d with
    | some (off, size), some cs => if cs.length = size ∧ off + cs.length ≤ cells.length then fillD place (spliceD cells off cs) r else none
    | _, _ => none
def partsF : List (Nat × Operand × D) → List (Nat × D)
  | [] => []
  | (i, _, d) :: r => (i, d) :: partsF r
def partsO : List (Nat × Operand × D) → List (Nat × Operand)
  | [] => []
  | (i, x, _) :: r => (i, x) :: partsO r
def partsE : List (Nat × Operand × D) → List (Operand × D)
  | [] => []
  | (_, x, d) :: r => (x, d) :: partsE r
theorem fill_rep {M : Nat → Prop} {w : World} {G : Cx} {ρ : Operand → Value} {place : Nat → Option (Nat × Nat)} : ∀ {ps : List (Nat × Operand × D)} {cells cs : List D} {vs : List Value}, fillD place cells (partsF ps) = some cs → RepL M w G cells vs → Vals M w G ρ (partsE ps) →
    ∃ us : List Value, Instr.fill place vs.toArray ((partsO ps).map fun (i, x) => (i, ρ x)) = some us.toArray ∧ RepL M w G cs us
  | [], cells, cs, vs, h, hv, _ => by
    simp only [fillD, partsF, Option.some.injEq] at h
    subst h
    exact ⟨vs, rfl, hv⟩
  | (i, x, d) :: r, cells, cs, vs, h, hv, hp => by
    simp only [partsF, fillD] at h
    simp only [partsO, List.map_cons, Instr.fill]
    cases hpl : place i with
    | none => rw [hpl] at h; cases h
    | some q =>
      obtain ⟨off, size⟩ := q
      cases hc : cellsD d with
      | none => rw [hpl, hc] at h; cases h
      | some ds =>
        rw [hpl, hc] at h
        simp only at h
        split at h
        · rename_i hh
          obtain ⟨us, hu, hr⟩ := cellsD_rep hc hp.1
          have hl := hr.length
          have hl2 := hv.length
          obtain ⟨us2, h3, h4⟩ := fill_rep (ρ := ρ) h (RepL.splice (off := off) hv hr) hp.2
          refine ⟨us2, ?_, h4⟩
          have hu' : (ρ x).cells = us.toArray := hu
          dsimp only
          rw [hu', if_neg (by simp; omega)]
          have := foldl_splice off us vs.toArray (by simp; omega)
          rw [show (us.toArray.zipIdx.foldl (fun cs (x : Value × Nat) => cs.setIfInBounds (off + x.2) x.1) vs.toArray) = (spliceD vs off us).toArray from by
            apply Array.toList_inj.1; simpa using this]
          exact h3
        · cases h
end Go.Dm
