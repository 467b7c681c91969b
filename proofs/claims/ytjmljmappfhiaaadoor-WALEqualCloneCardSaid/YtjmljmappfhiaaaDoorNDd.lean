/- A machine over data: what the operations do. No condition. -/
import Derived.Test.YtjmljmappfhiaaaDoorNC
set_option linter.unusedSimpArgs false
set_option linter.unusedVariables false
set_option linter.unusedSectionVars false
set_option maxHeartbeats 400000
namespace Go.Dm
open Go Go.RowKit Go.PP
variable [GlobW]

section
variable {P : Program} {N : Nat} {dst : Option Tmp} {ty : TypeId} {pos : String} {af : Array Edge} {gd : Option (Nat × Bool)}

theorem Vals.one {M : Nat → Prop} {w : World} {G : Cx} {ρ : Operand → Value} {x : Operand} {v : Value} {r : List (Operand × D)} (h : Vals M w G ρ ((x, .flat v) :: r)) : ρ x = v := by
  have := h.1
  simpa only [Rep] using this

/-! moves -/
theorem T.move (x : Operand) (d : D) : Tri P N ⟨dst, .move x, ty, pos, af, gd⟩ [(x, d)] [] d [] := Tri.val fun M w G ρ h => ⟨ρ x, rfl, h.1⟩
theorem T.assign (x : Operand) (d : D) : Tri P N ⟨dst, .assign x, ty, pos, af, gd⟩ [(x, d)] [] d [] := Tri.val fun M w G ρ h => ⟨ρ x, rfl, h.1⟩

/-! ints -/
theorem run_bin {op : BinOp} {k : IntKind} {a b : Int} {v : Value} {t : TypeId} {x y : Operand} (w : World) (h : (binOp op t (.int k a) (.int k b)).run P w = .ok v w) (ρ : Operand → Value) (hx : ρ x = .int k a) (hy : ρ y = .int k b) (ty' : TypeId) :
    (execOp ρ ⟨dst, .binOp op t x y ty', ty, pos, af, gd⟩).run P w = .ok (.value v) w := by
  simp only [execOp, hx, hy, Sem.run_bind]
  have : (eqGuard op t x y (.int k a) (.int k b)).run P w = .ok () w := by
    unfold eqGuard; split <;> rfl
  rw [this]
  simp only [Result.andThen_ok, h, Sem.run_pure]
theorem T.bin {op : BinOp} {k : IntKind} {a b : Int} {v : Value} (t ty' : TypeId) (x y : Operand) (h : ∀ w, (binOp op t (.int k a) (.int k b)).run P w = .ok v w) :
    Tri P N ⟨dst, .binOp op t x y ty', ty, pos, af, gd⟩ [(x, .flat (.int k a)), (y, .flat (.int k b))] [] (.flat v) [] :=
  Tri.val fun M w G ρ hv => ⟨v, run_bin w (h w) ρ hv.one hv.2.one ty', by simp only [Rep]⟩
theorem T.add {k : IntKind} {a b c : Int} (t ty' : TypeId) (x y : Operand) (h : k.wrap (a + b) = c) : Tri P N ⟨dst, .binOp .add t x y ty', ty, pos, af, gd⟩ [(x, .flat (.int k a)), (y, .flat (.int k b))] [] (.flat (.int k c)) [] :=
  T.bin t ty' x y fun w => by simp [binOp, Op.intArith, h]
theorem T.sub {k : IntKind} {a b c : Int} (t ty' : TypeId) (x y : Operand) (h : k.wrap (a - b) = c) : Tri P N ⟨dst, .binOp .sub t x y ty', ty, pos, af, gd⟩ [(x, .flat (.int k a)), (y, .flat (.int k b))] [] (.flat (.int k c)) [] :=
  T.bin t ty' x y fun w => by simp [binOp, Op.intArith, h]
theorem T.mul {k : IntKind} {a b c : Int} (t ty' : TypeId) (x y : Operand) (h : k.wrap (a * b) = c) : Tri P N ⟨dst, .binOp .mul t x y ty', ty, pos, af, gd⟩ [(x, .flat (.int k a)), (y, .flat (.int k b))] [] (.flat (.int k c)) [] :=
  T.bin t ty' x y fun w => by simp [binOp, Op.intArith, h]
theorem T.quo {k : IntKind} {a b c : Int} (t ty' : TypeId) (x y : Operand) (h0 : b ≠ 0) (h : k.wrap (a.tdiv b) = c) : Tri P N ⟨dst, .binOp .quo t x y ty', ty, pos, af, gd⟩ [(x, .flat (.int k a)), (y, .flat (.int k b))] [] (.flat (.int k c)) [] :=
  T.bin t ty' x y fun w => by simp [binOp, Op.intDiv, h, h0]
theorem T.rem {k : IntKind} {a b c : Int} (t ty' : TypeId) (x y : Operand) (h0 : b ≠ 0) (h : a.tmod b = c) : Tri P N ⟨dst, .binOp .rem t x y ty', ty, pos, af, gd⟩ [(x, .flat (.int k a)), (y, .flat (.int k b))] [] (.flat (.int k c)) [] :=
  T.bin t ty' x y fun w => by simp [binOp, Op.intDiv, h, h0]
theorem T.lss {k : IntKind} {a b : Int} (t ty' : TypeId) (x y : Operand) : Tri P N ⟨dst, .binOp .lss t x y ty', ty, pos, af, gd⟩ [(x, .flat (.int k a)), (y, .flat (.int k b))] [] (.flat (.bool (decide (a < b)))) [] :=
  T.bin t ty' x y fun w => by simp [binOp, Op.intCmp]
theorem T.leq {k : IntKind} {a b : Int} (t ty' : TypeId) (x y : Operand) : Tri P N ⟨dst, .binOp .leq t x y ty', ty, pos, af, gd⟩ [(x, .flat (.int k a)), (y, .flat (.int k b))] [] (.flat (.bool (decide (a ≤ b)))) [] :=
  T.bin t ty' x y fun w => by simp [binOp, Op.intCmp]
theorem T.gtr {k : IntKind} {a b : Int} (t ty' : TypeId) (x y : Operand) : Tri P N ⟨dst, .binOp .gtr t x y ty', ty, pos, af, gd⟩ [(x, .flat (.int k a)), (y, .flat (.int k b))] [] (.flat (.bool (decide (b < a)))) [] :=
  T.bin t ty' x y fun w => by simp [binOp, Op.intCmp]
theorem T.geq {k : IntKind} {a b : Int} (t ty' : TypeId) (x y : Operand) : Tri P N ⟨dst, .binOp .geq t x y ty', ty, pos, af, gd⟩ [(x, .flat (.int k a)), (y, .flat (.int k b))] [] (.flat (.bool (decide (b ≤ a)))) [] :=
  T.bin t ty' x y fun w => by simp [binOp, Op.intCmp]
theorem T.eql {k : IntKind} {a b : Int} (t ty' : TypeId) (x y : Operand) : Tri P N ⟨dst, .binOp .eql t x y ty', ty, pos, af, gd⟩ [(x, .flat (.int k a)), (y, .flat (.int k b))] [] (.flat (.bool (decide (a = b)))) [] :=
  T.bin t ty' x y fun w => by simp [binOp, Op.intCmp]; rfl
theorem T.neq {k : IntKind} {a b : Int} (t ty' : TypeId) (x y : Operand) : Tri P N ⟨dst, .binOp .neq t x y ty', ty, pos, af, gd⟩ [(x, .flat (.int k a)), (y, .flat (.int k b))] [] (.flat (.bool (decide (a ≠ b)))) [] :=
  T.bin t ty' x y fun w => by simp [binOp, Op.intCmp, bne]; rfl
theorem T.not {b : Bool} (t : TypeId) (x : Operand) : Tri P N ⟨dst, .unOp .not t x, ty, pos, af, gd⟩ [(x, .flat (.bool b))] [] (.flat (.bool (!b))) [] :=
  Tri.val fun M w G ρ h => ⟨.bool (!b), by simp [execOp, h.one, Op.unary], by simp only [Rep]⟩

/-! structs by value; tuples -/
theorem T.extract {ds : List D} {d : D} (x : Operand) (i : Nat) (h : ds[i]? = some d) : Tri P N ⟨dst, .extract x i, ty, pos, af, gd⟩ [(x, .tup ds)] [] d [] := Tri.val fun M w G ρ hv => by
  have h1 := hv.1
  simp only [Rep] at h1
  obtain ⟨vs, q1, q2⟩ := h1
  obtain ⟨u, hu, hr⟩ := q2.get i h
  exact ⟨u, by simp [execOp, q1, Instr.extract, hu], hr⟩
/-- Is a type a struct or an array? And of how many cells? -/
def aggOf (P : Program) (t : TypeId) : Option Bool := (P.underlying t).map fun d => match d with
  | .struct _ | .array _ _ => true
  | _ => false
def sizeOfT (P : Program) (t : TypeId) : Option Nat := (P.info? t).map (·.size)
theorem run_isAgg {t : TypeId} {b : Bool} (h : aggOf P t = some b) (w : World) : (isAgg t).run P w = .ok b w := by
  unfold aggOf at h
  obtain ⟨d, hd, rfl⟩ := Option.map_eq_some_iff.1 h
  simp only [isAgg, Go.underlying, Sem.run_bind, run_program, Result.andThen_ok, hd, Sem.run_pure]
  cases d <;> rfl
theorem run_sizeOf {t : TypeId} {n : Nat} (h : sizeOfT P t = some n) (w : World) : (sizeOf t).run P w = .ok n w := by
  unfold sizeOfT at h
  obtain ⟨d, hd, rfl⟩ := Option.map_eq_some_iff.1 h
  simp only [sizeOf, typeInfo, Sem.run_bind, run_program, Result.andThen_ok, hd, Sem.run_pure]
theorem run_underlying {t : TypeId} {d : TypeDesc} (h : P.underlying t = some d) (w : World) : (Go.underlying t).run P w = .ok d w := by
  simp only [Go.underlying, Sem.run_bind, run_program, Result.andThen_ok, h, Sem.run_pure]
/-- The datum of type t among cells, from off on. -/
def partD (agg : Bool) (n off : Nat) (cs : List D) : Option D := if agg then (if off + n ≤ cs.length then some (.agg ((cs.drop off).take n)) else none) else cs[off]?
theorem RepL.drop {M : Nat → Prop} {w : World} {G : Cx} : ∀ {ds : List D} {vs : List Value} (k : Nat), RepL M w G ds vs → RepL M w G (ds.drop k) (vs.drop k)
  | ds, vs, 0, h => by simpa using h
  | [], vs, k + 1, h => by simp only [RepL] at h; subst h; simp [RepL]
  | d :: ds, vs, k + 1, h => by
    simp only [RepL] at h
    obtain ⟨u, us, rfl, _, h3⟩ := h
    simpa using RepL.drop k h3
theorem RepL.take {M : Nat → Prop} {w : World} {G : Cx} : ∀ {ds : List D} {vs : List Value} (k : Nat), RepL M w G ds vs → RepL M w G (ds.take k) (vs.take k)
  | ds, vs, 0, h => by simp [RepL]
  | [], vs, k + 1, h => by simp only [RepL] at h; subst h; simp [RepL]
  | d :: ds, vs, k + 1, h => by
    simp only [RepL] at h
    obtain ⟨u, us, rfl, h2, h3⟩ := h
    simp only [List.take_succ_cons, RepL]
    exact ⟨u, us.take k, rfl, h2, RepL.take k h3⟩
theorem run_part {M : Nat → Prop} {w : World} {G : Cx} {t : TypeId} {b : Bool} {n off : Nat} {cs : List D} {vs : List Value} {d : D} (hb : aggOf P t = some b) (hn : sizeOfT P t = some n) (h : partD b n off cs = some d) (hv : RepL M w G cs vs) :
    ∃ v, (part t vs.toArray off).run P w = .ok v w ∧ Rep M w G d v := by
  unfold partD at h
  cases b with
  | true =>
    rw [if_pos rfl] at h
    split at h
    · cases h
      refine ⟨.agg ((vs.drop off).take n).toArray, ?_, ?_⟩
      · simp only [part, Sem.run_bind, run_isAgg hb, Result.andThen_ok, if_true, run_sizeOf hn, Sem.run_pure]
        congr 3
        simp [List.drop_take, Nat.add_sub_cancel_left]
      · simp only [Rep]
        exact ⟨_, rfl, (hv.drop off).take n⟩
    · cases h
  | false =>
    simp only [Bool.false_eq_true, if_false] at h
    obtain ⟨u, hu, hr⟩ := hv.get off h
    exact ⟨u, by simp [part, run_isAgg hb, hu], hr⟩
theorem T.field {fs : Array Field} {f : Field} {b : Bool} {n : Nat} {cs : List D} {d : D} (t : TypeId) (x : Operand) (i : Nat) (ht : P.underlying t = some (.struct fs)) (hf : fs[i]? = some f) (hb : aggOf P f.type = some b) (hn : sizeOfT P f.type = some n)
    (h : partD b n f.offset cs = some d) : Tri P N ⟨dst, .field t x i, ty, pos, af, gd⟩ [(x, .agg cs)] [] d [] := Tri.val fun M w G ρ hv => by
  have h1 := hv.1
  simp only [Rep] at h1
  obtain ⟨vs, q1, q2⟩ := h1
  obtain ⟨u, hu, hr⟩ := run_part (P := P) hb hn h q2
  exact ⟨u, by simp only [execOp, q1, Instr.field, Sem.run_bind, run_underlying ht, Result.andThen_ok, hf, asAgg, Sem.run_pure, hu], hr⟩
end
end Go.Dm
