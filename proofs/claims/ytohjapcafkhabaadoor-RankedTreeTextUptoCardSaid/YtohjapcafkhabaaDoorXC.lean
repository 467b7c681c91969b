/- Code that runs in the round of a loop over a function: what a walk needs. No condition. -/
import Derived.Test.YtohjapcafkhabaaDoorXInv
import Derived.OrdersIn
import Derived.TacticsIn
import Derived.RangeFuncKeeps
import Derived.RangeFuncLeaves

set_option linter.unusedSimpArgs false
set_option linter.unusedVariables false
set_option maxHeartbeats 400000
namespace Go.Dm
open Go Go.RowKit Go.PP

/-- In which loop's round the code runs, if in any. -/
class Rnd where
  r : Option Nat
instance (priority := low) rndNone : Rnd := ⟨none⟩
/-- The fence that bars nothing. -/
def FW (r : Option Nat) : Fence := { Fence.wide with round := r }
theorem FW.none_eq : FW none = Fence.wide := rfl
theorem FW.fn (r : Option Nat) (f : FuncId) : (FW r).fn f := trivial
theorem FW.room (r : Option Nat) (n : Nat) : (FW r).room n := room_wide n
theorem FW.depth (r : Option Nat) : (FW r).depth.isSome = true → False := fun h => by simp [FW, Fence.wide] at h
theorem FW.inRound (r : Option Nat) (l : Nat) : (FW r).inRound l = FW (some l) := rfl

section
variable {P : Program} {r : Option Nat} {n m : Nat} {a : Act} {w : World}
theorem callsFW {f : FuncId} {args : Array Value} {R : Ending → World → Prop} : CallsIn (FW r) n P f args w R ↔ Calls P f args w R := callsIn_wide (n := n)
theorem rowsFW {row : String} {args : Array Value} {R : Value → World → Prop} (h : Rows P row args w R) : RowsIn (FW r) n P row args w R := fun c cs _ =>
  let ⟨v, w', q, s⟩ := h c cs; ⟨v, w', q, stepsIn_wide.2 s⟩
theorem wpIn_any {c : Code} {Q : Exit → Act → World → Prop} (h : c.wpIn (FW r) n P Q a w) : c.wpIn (FW r) m P Q a w := fun b k cs h1 h2 _ => h b k cs h1 h2 (FW.room r _)
theorem roundFW {l : Nat} {f : FuncId} {tmps : Array Value} {assign body : Code} {R : Ending → World → Prop} (h : RoundIn (FW r) n P l f tmps assign body w R) : RoundIn (FW none) m P l f tmps assign body w R :=
  ⟨trivial, fun c cs _ => h.2 c cs (FW.room r _)⟩

theorem not_defer {ρ : Operand → Value} {o : Oper} {x : Next} {w' : World} (h : (execOp ρ o).run P w = .ok x w') (hx : ∀ d, x ≠ .defer d) : ∀ c, o.op ≠ .defer c := by
  intro c hc
  unfold execOp at h
  simp only [hc, Sem.run_bind] at h
  cases hr : (resolve ρ c o.type).run P w with
  | ok d w1 =>
    rw [hr] at h
    simp only [Result.andThen_ok, Sem.run_pure] at h
    cases h
    exact hx _ rfl
  | halt y w1 =>
    rw [hr] at h
    cases h
theorem semFW {ρ : Operand → Value} {o : Oper} {x : Next} {w' : World} (h : (execOp ρ o).run P w = .ok x w') (hx : ∀ d, x ≠ .defer d) : (o.semAt r ρ).run P w = .ok x w' := by
  rw [Oper.semAt_eq r ρ o (not_defer h hx)]; exact h

/-- An operation that yields a value. -/
theorem opIn_val {o : Oper} {v : Value} {w' : World} {next : Act → World → Prop} {Q : Exit → Act → World → Prop} (h : (execOp a.eval o).run P w = .ok (.value v) w') (hk : next (a.put o.dst v) w') : o.wpIn (FW r) n P a w next Q := by
  refine ⟨fun f _ => trivial, ?_⟩
  have e : (o.semAt (FW r).round a.eval).run P w = .ok (.value v) w' := semFW h (fun d e => by cases e)
  rw [e]
  exact hk
theorem opIn_skip {o : Oper} {w' : World} {next : Act → World → Prop} {Q : Exit → Act → World → Prop} (h : (execOp a.eval o).run P w = .ok .skip w') (hk : next (a.put o.dst undef) w') : o.wpIn (FW r) n P a w next Q := by
  refine ⟨fun f _ => trivial, ?_⟩
  have e : (o.semAt (FW r).round a.eval).run P w = .ok .skip w' := semFW h (fun d e => by cases e)
  rw [e]
  exact hk
theorem opIn_enter {o : Oper} {f : FuncId} {args : Array Value} {w' : World} {next : Act → World → Prop} {Q : Exit → Act → World → Prop} (h : (execOp a.eval o).run P w = .ok (.enter f args) w')
    (hk : Calls P f args w' fun x w'' => match x, w'' with
      | .returned v, w'' => next (a.put o.dst v) w''
      | .panicked chain, w'' => Q (.panic chain) a w''
      | .outgrown, _ => LetsOut Q) : o.wpIn (FW r) n P a w next Q := by
  refine ⟨fun f _ => trivial, ?_⟩
  have e : (o.semAt (FW r).round a.eval).run P w = .ok (.enter f args) w' := semFW h (fun d e => by cases e)
  rw [e]
  exact ⟨fun e => (FW.depth r e).elim, callsFW.2 hk⟩
/-- What is said of an operation elsewhere holds in a round, too. -/
theorem opIn_of {o : Oper} {next : Act → World → Prop} {Q : Exit → Act → World → Prop} (hd : ∀ c, o.op ≠ .defer c) (h : o.wp P a w next Q) : o.wpIn (FW r) n P a w next Q := by
  refine ⟨fun f _ => trivial, ?_⟩
  have e : o.semAt (FW r).round a.eval = execOp a.eval o := Oper.semAt_eq _ _ o hd
  rw [e]
  unfold Oper.wp at h
  cases hr : (execOp a.eval o).run P w with
  | ok x w' =>
    rw [hr] at h
    cases x with
    | value v => exact h
    | skip => exact h
    | defer d => exact h
    | enter f args => exact ⟨fun e => (FW.depth r e).elim, callsFW.2 h⟩
    | row row args => exact ⟨fun e => (FW.depth r e).elim, rowsFW h⟩
    | _ => exact h.elim
  | halt x w' =>
    rw [hr] at h
    cases x with
    | panic v => exact h
    | _ => exact h.elim
end

section
variable {F : Fence} {n : Nat} {P : Program} {md : Region.Mode} {ops : Array Oper} {Q : Exit → Act → World → Prop}
theorem wpAnyIn_inv (Inv : Array Bool → Act → World → Prop)
    (hstep : ∀ (L : Array Bool) (a : Act) (w : World) (i : Nat), Inv L a w → i ∈ Region.ready md ops L → wpOpIn F n P ops Q i (fun a' w' => Inv (L.setIfInBounds i true) a' w') a w)
    (hend : ∀ (L : Array Bool) (a : Act) (w : World), Inv L a w → (∀ i, i < ops.size → L.getD i true = false → i ∉ Region.ready md ops L) → Region.ready md ops L = [] → Q .normal a w) :
    ∀ (fuel : Nat) (L : Array Bool) (a : Act) (w : World), L.size = ops.size → (List.range ops.size).countP (fun i => !L.getD i true) ≤ fuel → Inv L a w → wpAnyIn F n P md ops Q fuel L a w
  | 0, L, a, w, hL, hc, h => by
    have hr : Region.ready md ops L = [] := by
      refine List.eq_nil_iff_forall_not_mem.2 fun i hi => ?_
      obtain ⟨h1, o, h2, _⟩ := mem_ready.1 hi
      have hlt := (Array.getElem?_eq_some_iff.1 h2).1
      have : (List.range ops.size).countP (fun i => !L.getD i true) = 0 := by omega
      rw [List.countP_eq_zero] at this
      exact this i (List.mem_range.2 hlt) (by rw [h1]; rfl)
    exact ⟨hr, hend L a w h (fun i _ _ hi => by rw [hr] at hi; cases hi) hr⟩
  | fuel + 1, L, a, w, hL, hc, h => by
    refine ⟨fun hr => hend L a w h (fun i _ _ hi => by rw [hr] at hi; cases hi) hr, fun i hi => ?_⟩
    obtain ⟨h1, o, h2, _⟩ := mem_ready.1 hi
    have hlt := (Array.getElem?_eq_some_iff.1 h2).1
    have hless := countP_less (p := fun i => !L.getD i true) (q := fun j => !(L.setIfInBounds i true).getD j true) (i := i) (by rw [h1]; rfl)
      (by simp [Array.getElem?_setIfInBounds, hL, hlt]) (fun j hj => by simp [Array.getElem?_setIfInBounds, show ¬ i = j from fun e => hj e.symm]) ops.size hlt
    exact wpOpIn_mono (fun a' w' h' => wpAnyIn_inv Inv hstep hend fuel _ a' w' (by simpa using hL) (by omega) h') (hstep L a w i h hi)
theorem wpIn_region_inv {id : Nat} {a : Act} {w : World} {l : List Oper} (Inv : Array Bool → Act → World → Prop) (hm : P.follows .mixedOrders = true)
    (hstep : ∀ (L : Array Bool) (a : Act) (w : World) (i : Nat), Inv L a w → i ∈ Region.ready .any l.toArray L → wpOpIn F n P l.toArray Q i (fun a' w' => Inv (L.setIfInBounds i true) a' w') a w)
    (hend : ∀ (L : Array Bool) (a : Act) (w : World), Inv L a w → Region.ready .any l.toArray L = [] → Q .normal a w)
    (h0 : Inv (Array.replicate l.length false) a w.drew) : (Code.region id l.toArray true).wpIn F n P Q a w := by
  refine wpIn_region_any hm (wpAnyIn_inv Inv hstep (fun L a w h _ hr => hend L a w h hr) _ _ _ _ (by simp) ?_ (by simpa using h0))
  refine Nat.le_trans List.countP_le_length (by simp)
theorem wpIn_region_inv3 {id : Nat} {a : Act} {w : World} {l : List Oper} (Inv : Act → Array Bool → Act → World → Prop) (hm : P.follows .mixedOrders = true)
    (hstep : ∀ (L : Array Bool) (a' : Act) (w : World) (i : Nat), Inv a L a' w → DownClosed .any l.toArray L → i ∈ Region.ready .any l.toArray L → wpOpIn F n P l.toArray Q i (fun a'' w' => Inv a (L.setIfInBounds i true) a'' w') a' w)
    (hend : ∀ (L : Array Bool) (a' : Act) (w : World), Inv a L a' w → Region.ready .any l.toArray L = [] → Q .normal a' w)
    (h0 : Inv a (Array.replicate l.length false) a w.drew) : (Code.region id l.toArray true).wpIn F n P Q a w :=
  wpIn_region_inv (fun L a' w => Inv a L a' w ∧ DownClosed .any l.toArray L) hm (fun L a' w i h hi => wpOpIn_mono (fun a'' w' h' => ⟨h', h.2.set hi⟩) (hstep L a' w i h.1 h.2 hi)) (fun L a' w h hr => hend L a' w h.1 hr) ⟨h0, DownClosed.none _ _ _⟩
end
end Go.Dm

set_option linter.unusedSimpArgs false
set_option linter.unusedVariables false
set_option linter.unusedSectionVars false
set_option maxHeartbeats 400000
namespace Go.Dm
open Go Go.RowKit Go.PP

/-- What the record of a loop over a function says, but for the frame that it keeps. -/
structure LR where
  st : LoopState
  pend : Option Code
  ps : Array Tmp
  asg : Code
  body : Code
/-- Data: flat values; structs and arrays by their cells; tuples; slices that no one changes any more (elements of n cells, all cells one behind the other; full: nothing behind the last);
a place among such cells; the row of this number at this length; a place in the box of this number; a place in a row; a function with what it holds;
the keys of a map (at the head of its box); a slice over cells of a box; a map; an interface that is not nil;
the record of a loop over a function (at the head of its box: the frame that it keeps follows); what such a loop hands to its function;
the type of a box (at its head). -/
inductive D where
  | any
  | flat (v : Value)
  | agg (cs : List D)
  | tup (ds : List D)
  | sl (full : Bool) (n len : Nat) (cs : List D)
  | ptr (cs : List D) (off : Nat)
  | own (id len : Nat)
  | ref (id off : Nat)
  | elp (id len off : Nat)
  | clo (fn : Fn) (first cap : List D)
  | keys (ks : List Value)
  | bsl (id off len cap : Nat)
  | mp (id : Nat)
  | ifn
  | lrec (r : LR)
  | yl (id : Nat)
  | typ (t : TypeId)

/-- What lies in memory of the call's own: a box of cells; a row. -/
inductive Ent where
  | box (cs : List D)
  | row (e : TypeId) (n len : Nat) (cs : List D)
  | dead

abbrev Sg := List (Nat × Option Ent)
abbrev Fr := List (Nat × D)

def lkF : Fr → Nat → D
  | [], _ => .any
  | (k, d) :: r, t => bif k == t then d else lkF r t
def lkE : Sg → Nat → Option Ent
  | [], _ => none
  | (k, d) :: r, t => bif k == t then d else lkE r t

/-- Where the boxes and the rows lie. -/
structure Gh where
  blk : Nat → Nat
  row : Nat → Value

def blkOf (g : Gh) (σ : Sg) (id : Nat) : Option Nat :=
  match lkE σ id with
  | some (.box _) => some (g.blk id)
  | some (.row ..) => (g.row id).ownBlock
  | some .dead => none
  | none => none

abbrev Cx := Option (Gh × Sg)

mutual
/-- A value stands for a datum; the cells of slices lie in no block of M. -/
def Rep (M : Nat → Prop) (w : World) (G : Cx) : D → Value → Prop
  | .any, _ => True
  | .flat v, u => u = v
  | .agg cs, u => ∃ vs : List Value, u = .agg vs.toArray ∧ RepL M w G cs vs
  | .tup ds, u => ∃ vs : List Value, u = .tuple vs.toArray ∧ RepL M w G ds vs
  | .sl full n len cs, u => ∃ a cap, u = .slice a len cap ∧ len ≤ cap ∧ (full = true → cap = len) ∧ cs.length = len * n ∧ len ≤ 9223372036854775807 ∧
      (len * n = 0 ∨ ∃ b off, a = some ⟨b, off, none⟩ ∧ ¬ M b ∧ RepC M w b off cs)
  | .ptr cs off, u => ∃ b o, u = .pointer (some ⟨b, o + off, none⟩) ∧ cs ≠ [] ∧ ¬ M b ∧ RepC M w b o cs
  | .own id L, u => ∃ g σ, G = some (g, σ) ∧ (lkE σ id = some .dead ∨ ∃ e n len cs, lkE σ id = some (.row e n len cs) ∧ L ≤ len ∧ (L = len → u = g.row id)) ∧ ∃ a c, u = .slice a L c
  | .ref id off, u => ∃ g σ cs, G = some (g, σ) ∧ lkE σ id = some (.box cs) ∧ u = .pointer (some ⟨g.blk id, off, none⟩)
  | .elp id L off, u => ∃ g σ, G = some (g, σ) ∧ (lkE σ id = some .dead ∨ ∃ e n len cs, lkE σ id = some (.row e n len cs) ∧ L ≤ len ∧ (L = len → ∃ b, (g.row id).ownBlock = some b ∧ u = .pointer (some ⟨b, off, none⟩))) ∧ ∃ a, u = .pointer (some a)
  | .clo fn first cap, u => ∃ vs us : List Value, u = .func fn vs.toArray us.toArray ∧ RepL M w G first vs ∧ RepL M w G cap us
  | .keys _, _ => True
  | .bsl id off len cap, u => ∃ g σ cs, G = some (g, σ) ∧ lkE σ id = some (.box cs) ∧ u = .slice (some ⟨g.blk id, off, none⟩) len cap
  | .mp id, u => ∃ g σ cs, G = some (g, σ) ∧ lkE σ id = some (.box cs) ∧ u = .map (some (g.blk id))
  | .ifn, u => ∃ t v, u = .iface t v
  | .lrec _, _ => True
  | .typ _, _ => True
  | .yl id, u => ∃ g σ cs, G = some (g, σ) ∧ lkE σ id = some (.box cs) ∧ u = .func (.yield (g.blk id)) #[] #[]
def RepL (M : Nat → Prop) (w : World) (G : Cx) : List D → List Value → Prop
  | [], vs => vs = []
  | d :: ds, vs => ∃ u us, vs = u :: us ∧ Rep M w G d u ∧ RepL M w G ds us
def RepC (M : Nat → Prop) (w : World) (b : Nat) (off : Nat) : List D → Prop
  | [] => True
  | d :: ds => (∃ u, w.cell? ⟨b, off, none⟩ = some u ∧ Rep M w none d u) ∧ RepC M w b (off + 1) ds
end

/-- What was there of boxes and rows is there; rows may have grown. -/
structure Grow (x y : Gh × Sg) : Prop where
  box : ∀ id cs, lkE x.2 id = some (.box cs) → (∃ cs', lkE y.2 id = some (.box cs')) ∧ y.1.blk id = x.1.blk id
  row : ∀ id e n len cs, lkE x.2 id = some (.row e n len cs) → lkE y.2 id = some .dead ∨ ∃ e' n' len' cs', lkE y.2 id = some (.row e' n' len' cs') ∧ len ≤ len' ∧ (len' = len → y.1.row id = x.1.row id)
  dead : ∀ id, lkE x.2 id = some .dead → lkE y.2 id = some .dead
/-- A row is read where it is said to be. -/
theorem row_at {σ : Sg} {id L len e n : Nat} {cs : List D} {R : Prop} (he : lkE σ id = some (.row e n len cs)) (h : lkE σ id = some .dead ∨ ∃ e n len cs, lkE σ id = some (.row e n len cs) ∧ L ≤ len ∧ (L = len → R)) : L ≤ len ∧ (L = len → R) := by
  rcases h with h | ⟨e1, n1, len1, cs1, h1, h2, h3⟩
  · rw [he] at h; cases h
  · rw [he] at h1; cases h1; exact ⟨h2, h3⟩
theorem Grow.refl (x : Gh × Sg) : Grow x x := ⟨fun id cs h => ⟨⟨cs, h⟩, rfl⟩, fun id e n len cs h => .inr ⟨e, n, len, cs, h, Nat.le_refl _, fun _ => rfl⟩, fun id h => h⟩

/-- How one context passes into another. -/
def GrowO : Cx → Cx → Prop
  | none, _ => True
  | some x, some y => Grow x y
  | some _, none => False

theorem RepC.lt {M : Nat → Prop} {w : World} {b off : Nat} {cs : List D} (hl : cs ≠ []) (h : RepC M w b off cs) : b < w.heap.size := by
  cases cs with
  | nil => exact absurd rfl hl
  | cons d ds =>
    simp only [RepC] at h
    obtain ⟨⟨u, hu, _⟩, _⟩ := h
    exact World.block_lt_of_cell? _ _ hu

mutual
theorem Rep.step {M M' S : Nat → Prop} {w w' : World} {G G' : Cx} (hG : GrowO G G') (m : Mut S w w') (hS : ∀ b, b < w.heap.size → S b → M b) (hM : ∀ b, b < w.heap.size → M' b → M b) : ∀ (d : D) (v : Value), Rep M w G d v → Rep M' w' G' d v
  | .any, _, _ => by simp only [Rep]
  | .flat v, u, h => by simpa only [Rep] using h
  | .agg cs, u, h => by
    simp only [Rep] at h ⊢
    obtain ⟨vs, h1, h2⟩ := h
    exact ⟨vs, h1, RepL.step hG m hS hM cs vs h2⟩
  | .tup cs, u, h => by
    simp only [Rep] at h ⊢
    obtain ⟨vs, h1, h2⟩ := h
    exact ⟨vs, h1, RepL.step hG m hS hM cs vs h2⟩
  | .sl full n len cs, u, h => by
    simp only [Rep] at h ⊢
    obtain ⟨a, cap, h1, h2, h3, h4, h5, h6⟩ := h
    refine ⟨a, cap, h1, h2, h3, h4, h5, ?_⟩
    rcases h6 with h6 | ⟨b, off, h7, h8, h9⟩
    · exact .inl h6
    · by_cases hl : cs = []
      · exact .inl (by rw [← h4, hl]; rfl)
      · exact .inr ⟨b, off, h7, fun e => h8 (hM b (RepC.lt hl h9) e), RepC.step m hS hM b off h8 cs h9⟩
  | .ptr cs off, u, h => by
    simp only [Rep] at h ⊢
    obtain ⟨b, o, h1, h2, h3, h4⟩ := h
    exact ⟨b, o, h1, h2, fun e => h3 (hM b (RepC.lt h2 h4) e), RepC.step m hS hM b o h3 cs h4⟩
  | .own id L, u, h => by
    simp only [Rep] at h ⊢
    obtain ⟨g, σ, rfl, h1, h4⟩ := h
    cases G' with
    | none => exact hG.elim
    | some y =>
      refine ⟨y.1, y.2, rfl, ?_, h4⟩
      rcases h1 with h1 | ⟨e, n, len, cs, h1, h2, h3⟩
      · exact .inl (hG.dead id h1)
      · rcases hG.row id e n len cs h1 with q | ⟨e', n', len', cs', q1, q2, q3⟩
        · exact .inl q
        · exact .inr ⟨e', n', len', cs', q1, by omega, fun e => (by rw [q3 (by omega)]; exact h3 (by omega))⟩
  | .ref id off, u, h => by
    simp only [Rep] at h ⊢
    obtain ⟨g, σ, cs, rfl, h1, h2⟩ := h
    cases G' with
    | none => exact hG.elim
    | some y =>
      obtain ⟨⟨cs', q1⟩, q2⟩ := hG.box id cs h1
      exact ⟨y.1, y.2, cs', rfl, q1, by rw [q2]; exact h2⟩
  | .elp id L off, u, h => by
    simp only [Rep] at h ⊢
    obtain ⟨g, σ, rfl, h1, h4⟩ := h
    cases G' with
    | none => exact hG.elim
    | some y =>
      refine ⟨y.1, y.2, rfl, ?_, h4⟩
      rcases h1 with h1 | ⟨e, n, len, cs, h1, h2, h3⟩
      · exact .inl (hG.dead id h1)
      · rcases hG.row id e n len cs h1 with q | ⟨e', n', len', cs', q1, q2, q3⟩
        · exact .inl q
        · exact .inr ⟨e', n', len', cs', q1, by omega, fun e => (by rw [q3 (by omega)]; exact h3 (by omega))⟩
  | .clo fn first cap, u, h => by
    simp only [Rep] at h ⊢
    obtain ⟨vs, us, h1, h2, h3⟩ := h
    exact ⟨vs, us, h1, RepL.step hG m hS hM first vs h2, RepL.step hG m hS hM cap us h3⟩
  | .keys _, u, h => by simp only [Rep]
  | .lrec _, u, h => by simp only [Rep]
  | .typ _, u, h => by simp only [Rep]
  | .yl id, u, h => by
    simp only [Rep] at h ⊢
    obtain ⟨g, σ, cs, rfl, h1, h2⟩ := h
    cases G' with
    | none => exact hG.elim
    | some y =>
      obtain ⟨⟨cs', q1⟩, q2⟩ := hG.box id cs h1
      exact ⟨y.1, y.2, cs', rfl, q1, by rw [q2]; exact h2⟩
  | .bsl id off len cap, u, h => by
    simp only [Rep] at h ⊢
    obtain ⟨g, σ, cs, rfl, h1, h2⟩ := h
    cases G' with
    | none => exact hG.elim
    | some y =>
      obtain ⟨⟨cs', q1⟩, q2⟩ := hG.box id cs h1
      exact ⟨y.1, y.2, cs', rfl, q1, by rw [q2]; exact h2⟩
  | .ifn, u, h => by simpa only [Rep] using h
  | .mp id, u, h => by
    simp only [Rep] at h ⊢
    obtain ⟨g, σ, cs, rfl, h1, h2⟩ := h
    cases G' with
    | none => exact hG.elim
    | some y =>
      obtain ⟨⟨cs', q1⟩, q2⟩ := hG.box id cs h1
      exact ⟨y.1, y.2, cs', rfl, q1, by rw [q2]; exact h2⟩
theorem RepL.step {M M' S : Nat → Prop} {w w' : World} {G G' : Cx} (hG : GrowO G G') (m : Mut S w w') (hS : ∀ b, b < w.heap.size → S b → M b) (hM : ∀ b, b < w.heap.size → M' b → M b) : ∀ (ds : List D) (vs : List Value), RepL M w G ds vs → RepL M' w' G' ds vs
  | [], vs, h => by simpa only [RepL] using h
  | d :: ds, vs, h => by
    simp only [RepL] at h ⊢
    obtain ⟨u, us, h1, h2, h3⟩ := h
    exact ⟨u, us, h1, Rep.step hG m hS hM d u h2, RepL.step hG m hS hM ds us h3⟩
theorem RepC.step {M M' S : Nat → Prop} {w w' : World} (m : Mut S w w') (hS : ∀ b, b < w.heap.size → S b → M b) (hM : ∀ b, b < w.heap.size → M' b → M b) (b off : Nat) (hb : ¬ M b) : ∀ (ds : List D), RepC M w b off ds → RepC M' w' b off ds
  | [], h => by simp only [RepC]
  | d :: ds, h => by
    simp only [RepC] at h ⊢
    obtain ⟨⟨u, h1, h2⟩, h3⟩ := h
    exact ⟨⟨u, m.cell h1 (fun e => hb (hS b (World.block_lt_of_cell? w _ h1) e)), Rep.step (G := none) (G' := none) trivial m hS hM d u h2⟩, RepC.step m hS hM b (off + 1) hb ds h3⟩
end

theorem Rep.fix {M : Nat → Prop} {w w' : World} {G : Cx} {d : D} {v : Value} (h : Rep M w G d v) (m : Fix w w') : Rep M w' G d v :=
  h.step (by cases G with | none => trivial | some x => exact Grow.refl x) m (by simp) (fun _ _ h => h)
theorem RepL.fix {M : Nat → Prop} {w w' : World} {G : Cx} {d : List D} {v : List Value} (h : RepL M w G d v) (m : Fix w w') : RepL M w' G d v :=
  RepL.step (by cases G with | none => trivial | some x => exact Grow.refl x) m (by simp) (fun _ _ h => h) d v h
theorem Rep.mono {M M' : Nat → Prop} {w : World} {G : Cx} {d : D} {v : Value} (h : Rep M w G d v) (hM : ∀ b, b < w.heap.size → M' b → M b) : Rep M' w G d v :=
  h.step (S := fun _ => False) (by cases G with | none => trivial | some x => exact Grow.refl x) (Mut.refl _ w) (fun _ _ h => h.elim) hM
theorem RepL.mono {M M' : Nat → Prop} {w : World} {G : Cx} {d : List D} {v : List Value} (h : RepL M w G d v) (hM : ∀ b, b < w.heap.size → M' b → M b) : RepL M' w G d v :=
  RepL.step (S := fun _ => False) (by cases G with | none => trivial | some x => exact Grow.refl x) (Mut.refl _ w) (fun _ _ h => h.elim) hM d v h
theorem Rep.up {M : Nat → Prop} {w : World} {G : Cx} {d : D} {v : Value} (h : Rep M w none d v) : Rep M w G d v :=
  h.step (G := none) (S := fun _ => False) trivial (Mut.refl _ w) (fun _ _ h => h.elim) (fun _ _ h => h)
theorem RepL.up {M : Nat → Prop} {w : World} {G : Cx} {d : List D} {v : List Value} (h : RepL M w none d v) : RepL M w G d v :=
  RepL.step (G := none) (S := fun _ => False) trivial (Mut.refl _ w) (fun _ _ h => h.elim) (fun _ _ h => h) d v h

theorem RepL.length {M : Nat → Prop} {w : World} {G : Cx} : ∀ {ds : List D} {vs : List Value}, RepL M w G ds vs → ds.length = vs.length
  | [], vs, h => by simp only [RepL] at h; subst h; rfl
  | d :: ds, vs, h => by
    simp only [RepL] at h
    obtain ⟨u, us, rfl, _, h3⟩ := h
    simp [RepL.length h3]
theorem RepL.get {M : Nat → Prop} {w : World} {G : Cx} : ∀ {ds : List D} {vs : List Value} (i : Nat) {d : D}, RepL M w G ds vs → ds[i]? = some d → ∃ u, vs[i]? = some u ∧ Rep M w G d u
  | [], vs, i, d, h, hd => by simp at hd
  | d0 :: ds, vs, i, d, h, hd => by
    simp only [RepL] at h
    obtain ⟨u, us, rfl, h2, h3⟩ := h
    cases i with
    | zero => simp at hd; subst hd; exact ⟨u, by simp, h2⟩
    | succ i => simpa using RepL.get i h3 (by simpa using hd)
theorem RepL.of {M : Nat → Prop} {w : World} {G : Cx} : ∀ {ds : List D} {vs : List Value}, ds.length = vs.length → (∀ (i : Nat) d u, ds[i]? = some d → vs[i]? = some u → Rep M w G d u) → RepL M w G ds vs
  | [], vs, hl, h => by
    simp only [RepL]; cases vs with
    | nil => rfl
    | cons v vs => simp at hl
  | d :: ds, vs, hl, h => by
    cases vs with
    | nil => simp at hl
    | cons v vs =>
      simp only [RepL]
      exact ⟨v, vs, rfl, h 0 d v (by simp) (by simp), RepL.of (by simpa using hl) (fun i d u h1 h2 => h (i + 1) d u (by simpa using h1) (by simpa using h2))⟩
theorem RepC.get {M : Nat → Prop} {w : World} {b : Nat} : ∀ {ds : List D} {off : Nat} (i : Nat) {d : D}, RepC M w b off ds → ds[i]? = some d → ∃ u, w.cell? ⟨b, off + i, none⟩ = some u ∧ Rep M w none d u
  | [], off, i, d, h, hd => by simp at hd
  | d0 :: ds, off, i, d, h, hd => by
    simp only [RepC] at h
    obtain ⟨⟨u, h1, h2⟩, h3⟩ := h
    cases i with
    | zero => simp at hd; subst hd; exact ⟨u, h1, h2⟩
    | succ i =>
      obtain ⟨u', h4, h5⟩ := RepC.get i h3 (by simpa using hd)
      exact ⟨u', by rw [show off + (i + 1) = off + 1 + i by omega]; exact h4, h5⟩
theorem RepC.of {M : Nat → Prop} {w : World} {b : Nat} : ∀ {ds : List D} {off : Nat}, (∀ (i : Nat) d, ds[i]? = some d → ∃ u, w.cell? ⟨b, off + i, none⟩ = some u ∧ Rep M w none d u) → RepC M w b off ds
  | [], off, h => by simp only [RepC]
  | d :: ds, off, h => by
    simp only [RepC]
    exact ⟨h 0 d (by simp), RepC.of fun i d' hd => by
      have := h (i + 1) d' (by simpa using hd)
      rwa [show off + (i + 1) = off + 1 + i by omega] at this⟩

/-! ### the state -/
structure DS where
  f : Fr
  σ : Sg

def Mx (M0 : Nat → Prop) (g : Gh) (σ : Sg) (b : Nat) : Prop := M0 b ∨ ∃ id, blkOf g σ id = some b

/-- The keys at the head of a map's box. -/
def keysOf : List D → Option (List Value ⊕ (LR ⊕ TypeId))
  | .keys ks :: _ => some (.inl ks)
  | .lrec r :: _ => some (.inr (.inl r))
  | .typ t :: _ => some (.inr (.inr t))
  | _ => none
/-- What lies in a box: cells; or a map's entries. -/
def ObjIs (o : Obj) (cs : List D) (vs : List Value) : Prop := match keysOf cs with
  | some (.inl ks) => ∃ es clock, o = .map es clock ∧ es.toList.map (·.key) = ks ∧ vs.tail = es.toList.map (·.val)
  | some (.inr (.inr t)) => o = .cells vs.tail.toArray t (0, 0)
  | some (.inr (.inl r)) => ∃ fn D, o = .loop { state := r.st, pending := r.pend, fn := fn, tmps := vs.tail.toArray, params := r.ps, assign := r.asg, body := r.body, defers := D }
  | none => ∃ T, o = .cells vs.toArray T (0, 0)
theorem ObjIs.of {o : Obj} {cs cs' : List D} {vs : List Value} (h : ObjIs o cs vs) (he : keysOf cs' = keysOf cs) : ObjIs o cs' vs := by unfold ObjIs at h ⊢; rw [he]; exact h
theorem ObjIs.cells {o : Obj} {cs : List D} {vs : List Value} (h : ObjIs o cs vs) (he : keysOf cs = none) : ∃ T, o = .cells vs.toArray T (0, 0) := by unfold ObjIs at h; rw [he] at h; exact h
theorem ObjIs.mk {cs : List D} {vs : List Value} {T : TypeId} (he : keysOf cs = none) : ObjIs (.cells vs.toArray T (0, 0)) cs vs := by unfold ObjIs; rw [he]; exact ⟨T, rfl⟩
/-- A row that grows by append: what ownsRow says, but that the cells behind its array's end may be frozen (the mark of a conversion). -/
def OwnR (w : World) (e : TypeId) (size : Nat) (v : Value) (n : Nat) (xs : List Value) : Prop :=
  xs.length = n * size ∧ ((v = .slice none 0 0 ∧ n = 0) ∨
    ∃ g cap cur fz, v = .slice (some ⟨g, 0, none⟩) n cap ∧ w.heap[g]? = some (.cells cur e fz) ∧ (fz = (0, 0) ∨ cur.size ≤ fz.1) ∧ n ≤ cap ∧ cap ≤ maxLen ∧ cur.size = cap * size ∧ cur.toList.take (n * size) = xs)
theorem OwnR.nil (w : World) (e size : Nat) : OwnR w e size (.slice none 0 0) 0 [] := ⟨by simp, .inl ⟨rfl, rfl⟩⟩
theorem OwnR.mut {w w' : World} {S : Nat → Prop} {e : TypeId} {sz : Nat} {v : Value} {n : Nat} {cs : List Value} (h : OwnR w e sz v n cs) (m : Mut S w w') (hs : ∀ k, v.ownBlock = some k → ¬ S k) : OwnR w' e sz v n cs := by
  refine ⟨h.1, ?_⟩
  rcases h.2 with hn | ⟨g, cap, cur, fz, rfl, hgg, rest⟩
  · exact .inl hn
  · exact .inr ⟨g, cap, cur, fz, rfl, m.heap hgg (hs g rfl), rest⟩
def EntOk (M : Nat → Prop) (w : World) (g : Gh) (σ : Sg) (id : Nat) : Ent → Prop
  | .box cs => ∃ (vs : List Value) (o : Obj), w.heap[g.blk id]? = some o ∧ RepL M w (some (g, σ)) cs vs ∧ ObjIs o cs vs
  | .row e n len cs => ∃ vs : List Value, OwnR w e n (g.row id) len vs ∧ RepL M w (some (g, σ)) cs vs
  | .dead => True

/-- What a call may change of what it found: blocks; where the boxes and rows lie that it was lent (rows by their length). -/
structure Bd where
  blk : Nat → Prop
  box : Nat → Nat → Prop
  row : Nat → Nat → Value → Prop
  up : ∀ id len v len' v', row id len v → len < len' → row id len' v'
def Bd.none : Bd := ⟨fun _ => False, fun _ _ => False, fun _ _ _ => False, fun _ _ _ _ _ h => h.elim⟩
/-- A number that a call with N slots may give to a box or row of its own: below 100000, or bit N of its hundred thousands is not set. -/
def newId (N id : Nat) : Bool := Nat.blt id 100000 || !Nat.testBit (id / 100000) N
def Anc (B0 : Bd) (N : Nat) (g : Gh) (σ : Sg) : Prop := ∀ id, (∀ cs, lkE σ id = some (.box cs) → newId N id = true ∨ B0.box id (g.blk id)) ∧ (∀ e n len cs, lkE σ id = some (.row e n len cs) → newId N id = true ∨ B0.row id len (g.row id))
theorem Anc.nil {B0 : Bd} {N : Nat} {g : Gh} : Anc B0 N g [] := fun id => ⟨fun cs h => by simp [lkE] at h, fun e n len cs h => by simp [lkE] at h⟩
theorem Anc.grow {B0 : Bd} {N : Nat} {g g' : Gh} {σ σ' : Sg} (h : Anc B0 N g σ) (hg : Grow (g, σ) (g', σ')) (hn : ∀ id, lkE σ id = none → lkE σ' id ≠ none → newId N id = true) : Anc B0 N g' σ' := fun id => by
  cases he : lkE σ id with
  | none =>
    refine ⟨fun cs hc => .inl (hn id he (by rw [hc]; simp)), fun e n len cs hc => .inl (hn id he (by rw [hc]; simp))⟩
  | some x =>
    cases x with
    | box cs0 =>
      obtain ⟨⟨cs1, q1⟩, q2⟩ := hg.box id cs0 he
      have q1 : lkE σ' id = some (.box cs1) := q1
      refine ⟨fun cs hc => ?_, fun e n len cs hc => by rw [q1] at hc; cases hc⟩
      rw [q2]
      exact (h id).1 cs0 he
    | row e0 n0 len0 cs0 =>
      rcases hg.row id e0 n0 len0 cs0 he with q0 | ⟨e1, n1, len1, cs1, q1, q2, q3⟩
      · have q0 : lkE σ' id = some .dead := q0
        exact ⟨fun cs hc => (by rw [q0] at hc; cases hc), fun e n len cs hc => (by rw [q0] at hc; cases hc)⟩
      have q1 : lkE σ' id = some (.row e1 n1 len1 cs1) := q1
      refine ⟨fun cs hc => (by rw [q1] at hc; cases hc), fun e n len cs hc => ?_⟩
      rw [q1] at hc
      cases hc
      rcases (h id).2 e0 n0 len0 cs0 he with q4 | q4
      · exact .inl q4
      · rcases Nat.lt_or_ge len0 len1 with q5 | q5
        · exact .inr (B0.up _ _ _ _ _ q4 q5)
        · have : len1 = len0 := by omega
          subst this
          exact .inr (by rw [q3 rfl]; exact q4)
    | dead =>
      have q0 : lkE σ' id = some .dead := hg.dead id he
      exact ⟨fun cs hc => (by rw [q0] at hc; cases hc), fun e n len cs hc => (by rw [q0] at hc; cases hc)⟩
/-- Package-level variables that calls read: their blocks and what is known of their cells. -/
class GlobW where
  gl : List (Nat × List (Value → Prop))
variable [GlobW]
def GlW (w : World) : Prop := ∀ p ∈ GlobW.gl, ∃ (cs : Array Value) (T : TypeId) (fz : Nat × Nat), w.heap[p.1]? = some (.cells cs T fz) ∧ cs.size = p.2.length ∧ ∀ (i : Nat) (c : Value → Prop), p.2[i]? = some c → ∃ u, cs[i]? = some u ∧ c u
def GlB (b : Nat) : Prop := ∃ cs, (b, cs) ∈ GlobW.gl
theorem GlW.mut {S : Nat → Prop} {w w' : World} (h : GlW w) (m : Mut S w w') (hS : ∀ b, GlB b → ¬ S b) : GlW w' := fun p hp => by
  obtain ⟨cs, T, fz, h1, h2⟩ := h p hp
  exact ⟨cs, T, fz, m.heap h1 (hS p.1 ⟨p.2, hp⟩), h2⟩
theorem GlW.lt {w : World} (h : GlW w) {b : Nat} (hb : GlB b) : b < w.heap.size := by
  obtain ⟨cs, hcs⟩ := hb
  obtain ⟨cs, T, fz, h1, h2⟩ := h _ hcs
  exact (Array.getElem?_eq_some_iff.1 h1).1
theorem GlW.all {w : World} (h : GlW w) {b : Nat} {vs : List Value} (hb : (b, vs.map fun v u => u = v) ∈ GlobW.gl) : ∃ (T : TypeId) (fz : Nat × Nat), w.heap[b]? = some (.cells vs.toArray T fz) := by
  obtain ⟨cs, T, fz, h1, h2, h3⟩ := h _ hb
  simp only [List.length_map] at h2 h3
  refine ⟨T, fz, ?_⟩
  rw [h1]
  congr 2
  apply Array.ext'
  apply List.ext_getElem?
  intro i
  rw [List.toList_toArray]
  cases hi : vs[i]? with
  | none =>
    have := List.getElem?_eq_none_iff.1 hi
    simp only [Array.getElem?_toList]
    exact Array.getElem?_eq_none (by omega)
  | some v =>
    obtain ⟨u, q1, q2⟩ := h3 i (fun u => u = v) (by simp [hi])
    rw [q2] at q1
    simpa using q1
structure GlOk (w0 : World) (B : Nat → Prop) : Prop where
  w : GlW w0
  n : ∀ b, GlB b → ¬ B b
/-- What was put off is nothing but what loops over functions have gathered: nothing. -/
def Dfs (n0 : Nat) (g : Gh) (σ : Sg) (a : Act) (w : World) : Prop := ∃ Ds : List Nat, a.defers = Ds.map (fun D => { target := .collected D, args := #[] }) ∧ Ds.Nodup ∧ ∀ D ∈ Ds, (w.heap[D]? = some (.deferred (some [])) ∧ n0 ≤ D) ∧ ∀ id, blkOf g σ id ≠ some D
theorem Dfs.nil {n0 : Nat} {g : Gh} {σ : Sg} {a : Act} {w : World} (h : a.defers = []) : Dfs n0 g σ a w := ⟨[], h, List.nodup_nil, fun D hD => by cases hD⟩
theorem Dfs.step {n0 : Nat} {g g' : Gh} {σ σ' : Sg} {a a' : Act} {w w' : World} (h : Dfs n0 g σ a w) {S : Nat → Prop} (m : Mut S w w') (ha : a'.defers = a.defers) (hS : ∀ b, b < w.heap.size → S b → ∃ id, blkOf g σ id = some b) (hb : ∀ id b, blkOf g' σ' id = some b → b < w.heap.size → ∃ id', blkOf g σ id' = some b) : Dfs n0 g' σ' a' w' := by
  obtain ⟨Ds, h1, h2, h3⟩ := h
  refine ⟨Ds, ha.trans h1, h2, fun D hD => ?_⟩
  obtain ⟨⟨h4, h6⟩, h5⟩ := h3 D hD
  have hlt : D < w.heap.size := (Array.getElem?_eq_some_iff.1 h4).1
  refine ⟨⟨m.heap h4 (fun hs => ?_), h6⟩, fun id hid => ?_⟩
  · obtain ⟨id, hid⟩ := hS D hlt hs
    exact h5 id hid
  · obtain ⟨id', hid'⟩ := hb id D hid hlt
    exact h5 id' hid'
/-- The call's memory and its frame stand for a state. -/
structure StG (w0 : World) (M0 : Nat → Prop) (B0 : Bd) (N : Nat) (g : Gh) (s : DS) (a : Act) (w : World) : Prop where
  chg : Mut B0.blk w0 w
  m0 : ∀ b, M0 b → b < w0.heap.size
  df : Dfs w0.heap.size g s.σ a w
  sz : a.tmps.size = N % 512
  tm : ∀ t, Rep (Mx M0 g s.σ) w (some (g, s.σ)) (lkF s.f t) (a.tmps.getD t undef)
  ent : ∀ id e, lkE s.σ id = some e → EntOk (Mx M0 g s.σ) w g s.σ id e
  sep : ∀ id id' b, blkOf g s.σ id = some b → blkOf g s.σ id' = some b → id = id'
  new : ∀ id b, blkOf g s.σ id = some b → b < w.heap.size ∧ (b < w0.heap.size → B0.blk b) ∧ ¬ M0 b
  anc : Anc B0 N g s.σ
  glo : GlOk w0 B0.blk
theorem StG.glw {w0 : World} {M0 : Nat → Prop} {B0 : Bd} {N : Nat} {g : Gh} {s : DS} {a : Act} {w : World} (h : StG w0 M0 B0 N g s a w) : GlW w := h.glo.w.mut h.chg h.glo.n
def St (w0 : World) (M0 : Nat → Prop) (B0 : Bd) (N : Nat) (s : DS) (a : Act) (w : World) : Prop := ∃ g, StG w0 M0 B0 N g s a w

def updF (f : Fr) : Option Tmp → D → Fr
  | some t, d => (t, d) :: f
  | none, _ => f

theorem lkF_cons (t : Nat) (d : D) (f : Fr) (k : Nat) : lkF ((t, d) :: f) k = if t = k then d else lkF f k := by
  simp only [lkF]
  by_cases h : t = k
  · subst h; simp
  · have hb : (t == k) = false := by
      cases hb : (t == k) with
      | false => rfl
      | true => exact absurd (eq_of_beq hb) h
    simp [h, hb]
theorem lkE_cons (t : Nat) (d : Option Ent) (f : Sg) (k : Nat) : lkE ((t, d) :: f) k = if t = k then d else lkE f k := by
  simp only [lkE]
  by_cases h : t = k
  · subst h; simp
  · have hb : (t == k) = false := by
      cases hb : (t == k) with
      | false => rfl
      | true => exact absurd (eq_of_beq hb) h
    simp [h, hb]

theorem put_getD (a : Act) (dst : Option Tmp) (v : Value) (t : Nat) (h : ∀ k, dst = some k → k < a.tmps.size) : (a.put dst v).tmps.getD t undef = if dst = some t then v else a.tmps.getD t undef := by
  cases dst with
  | none => simp [Act.put]
  | some k =>
    by_cases e : k = t
    · subst e; simp [Act.put, h k rfl]
    · simp [Act.put, e, Array.getElem?_setIfInBounds]
theorem put_size (a : Act) (dst : Option Tmp) (v : Value) : (a.put dst v).tmps.size = a.tmps.size := by cases dst <;> simp [Act.put]
theorem put_defers (a : Act) (dst : Option Tmp) (v : Value) : (a.put dst v).defers = a.defers := by cases dst <;> simp [Act.put]

theorem StG.entFix {w0 : World} {M0 : Nat → Prop} {B0 : Bd} {N : Nat} {g : Gh} {s : DS} {a : Act} {w w' : World} (h : StG w0 M0 B0 N g s a w) (m : Fix w w') : ∀ id e, lkE s.σ id = some e → EntOk (Mx M0 g s.σ) w' g s.σ id e := fun id e he => by
  have := h.ent id e he
  cases e with
  | box cs =>
    obtain ⟨vs, T, h1, h2, h3⟩ := this
    exact ⟨vs, T, m.heap h1 (by simp), h2.fix m, h3⟩
  | row e n len cs =>
    obtain ⟨vs, h1, h2⟩ := this
    exact ⟨vs, h1.mut m (by simp), h2.fix m⟩
  | dead => trivial
/-- A value is put into a slot, while nothing of the call's own changes. -/
def dstOk (N : Nat) : Option Tmp → Bool
  | some k => Nat.blt k (N % 512)
  | none => true
theorem StG.pure {w0 : World} {M0 : Nat → Prop} {B0 : Bd} {N : Nat} {g : Gh} {s : DS} {a : Act} {w w' : World} (h : StG w0 M0 B0 N g s a w) (m : Fix w w') {dst : Option Tmp} (hd : dstOk N dst = true) {d : D} {v : Value}
    (hr : Rep (Mx M0 g s.σ) w' (some (g, s.σ)) d v) : StG w0 M0 B0 N g ⟨updF s.f dst d, s.σ⟩ (a.put dst v) w' := by
  refine ⟨h.chg.trans (m.mono fun _ _ e => e.elim), h.m0, h.df.step m (put_defers _ _ _) (fun _ _ e => e.elim) (fun id b hb _ => ⟨id, hb⟩), by rw [put_size]; exact h.sz, fun t => ?_, fun id e he => ?_, h.sep, fun id b hb => ?_, h.anc, h.glo⟩
  · rw [put_getD _ _ _ _ (fun k hk => by subst hk; rw [h.sz]; simpa [dstOk] using hd)]
    cases dst with
    | none => simpa [updF] using (h.tm t).fix m
    | some k =>
      simp only [updF, lkF_cons, Option.some.injEq]
      by_cases e : k = t
      · rw [if_pos e, if_pos e]; exact hr
      · rw [if_neg e, if_neg e]; exact (h.tm t).fix m
  · have := h.ent id e he
    cases e with
    | box cs =>
      obtain ⟨vs, T, h1, h2, h3⟩ := this
      exact ⟨vs, T, m.heap h1 (by simp), h2.fix m, h3⟩
    | row e n len cs =>
      obtain ⟨vs, h1, h2⟩ := this
      exact ⟨vs, h1.mut m (by simp), h2.fix m⟩
    | dead => trivial
  · have := h.new id b hb
    exact ⟨Nat.lt_of_lt_of_le this.1 m.size, this.2⟩

theorem blkOf_cons (g : Gh) (k : Nat) (e : Option Ent) (σ : Sg) (id : Nat) : blkOf g ((k, e) :: σ) id = if k = id then (match e with | some (.box _) => some (g.blk id) | some (.row ..) => (g.row id).ownBlock | some .dead => none | none => none) else blkOf g σ id := by
  unfold blkOf
  rw [lkE_cons]
  by_cases h : k = id
  · rw [if_pos h, if_pos h]
  · rw [if_neg h, if_neg h]

/-- One box or row is made or changed, and a value is put into a slot. -/
theorem StG.set1 {w0 : World} {M0 : Nat → Prop} {B0 : Bd} {N : Nat} {g g' : Gh} {s : DS} {a : Act} {w w' : World} (h : StG w0 M0 B0 N g s a w) (id : Nat) (e' : Ent) (hid : lkE s.σ id = none → newId N id = true) (m : Mut (fun b => blkOf g s.σ id = some b) w w')
    (hg1 : ∀ k, k ≠ id → g'.blk k = g.blk k) (hg2 : ∀ k, k ≠ id → g'.row k = g.row k) (hgr : Grow (g, s.σ) (g', (id, some e') :: s.σ))
    (hb : ∀ b, blkOf g' ((id, some e') :: s.σ) id = some b → b < w'.heap.size ∧ (b < w.heap.size → blkOf g s.σ id = some b))
    (he : ∀ M : Nat → Prop, (∀ b, b < w.heap.size → M b → Mx M0 g s.σ b) → EntOk M w' g' ((id, some e') :: s.σ) id e')
    {dst : Option Tmp} (hd : dstOk N dst = true) {d : D} {v : Value} (hr : ∀ M : Nat → Prop, (∀ b, b < w.heap.size → M b → Mx M0 g s.σ b) → Rep M w' (some (g', (id, some e') :: s.σ)) d v) :
    StG w0 M0 B0 N g' ⟨updF s.f dst d, (id, some e') :: s.σ⟩ (a.put dst v) w' := by
  have hne : ∀ k, k ≠ id → blkOf g' ((id, some e') :: s.σ) k = blkOf g s.σ k := fun k hk => by
    rw [blkOf_cons, if_neg (fun e => hk e.symm)]
    unfold blkOf
    rw [hg1 k hk, hg2 k hk]
  have hS : ∀ b, b < w.heap.size → blkOf g s.σ id = some b → Mx M0 g s.σ b := fun b _ hb => .inr ⟨id, hb⟩
  have hM : ∀ b, b < w.heap.size → Mx M0 g' ((id, some e') :: s.σ) b → Mx M0 g s.σ b := fun b hlt hx => by
    rcases hx with hx | ⟨k, hk⟩
    · exact .inl hx
    · by_cases e : k = id
      · subst e; exact .inr ⟨k, (hb b hk).2 hlt⟩
      · rw [hne k e] at hk; exact .inr ⟨k, hk⟩
  have hB : ∀ b, b < w0.heap.size → blkOf g s.σ id = some b → B0.blk b := fun b hlt hb' => (h.new id b hb').2.1 hlt
  have hst : ∀ d v, Rep (Mx M0 g s.σ) w (some (g, s.σ)) d v → Rep (Mx M0 g' ((id, some e') :: s.σ)) w' (some (g', (id, some e') :: s.σ)) d v := fun d v h1 => h1.step (G := some _) (G' := some _) hgr m hS hM
  refine ⟨h.chg.trans' m hB, h.m0, h.df.step m (put_defers _ _ _) (fun b _ hb => ⟨id, hb⟩) (fun k b hk hlt => by
    by_cases e : k = id
    · subst e; exact ⟨k, (hb b hk).2 hlt⟩
    · rw [hne k e] at hk; exact ⟨k, hk⟩), by rw [put_size]; exact h.sz, fun t => ?_, fun k e hk => ?_, fun k k' b h1 h2 => ?_, fun k b hk => ?_, h.anc.grow hgr (fun k h1 h2 => (by
    simp only [lkE_cons] at h2
    by_cases e : id = k
    · subst e; exact hid h1
    · rw [if_neg e] at h2; exact absurd h1 h2)), h.glo⟩
  · rw [put_getD _ _ _ _ (fun k hk => by subst hk; rw [h.sz]; simpa [dstOk] using hd)]
    cases dst with
    | none => simpa [updF] using hst _ _ (h.tm t)
    | some k =>
      simp only [updF, lkF_cons, Option.some.injEq]
      by_cases e : k = t
      · rw [if_pos e, if_pos e]; exact hr _ hM
      · rw [if_neg e, if_neg e]; exact hst _ _ (h.tm t)
  · simp only [lkE_cons] at hk
    by_cases e1 : id = k
    · rw [if_pos e1] at hk; cases hk; subst e1; exact he _ hM
    · rw [if_neg e1] at hk
      have e2 : k ≠ id := fun e => e1 e.symm
      have hsepk : ∀ b, blkOf g s.σ k = some b → ¬ blkOf g s.σ id = some b := fun b h1 h2 => e1 (h.sep id k b h2 h1)
      have := h.ent k e hk
      cases e with
      | box cs =>
        obtain ⟨vs, T, h1, h2, h3⟩ := this
        have hbk : blkOf g s.σ k = some (g.blk k) := by unfold blkOf; rw [hk]
        refine ⟨vs, T, ?_, RepL.step (G := some _) (G' := some _) hgr m hS hM cs vs h2, h3⟩
        rw [hg1 k e2]; exact m.heap h1 (hsepk _ hbk)
      | row e n len cs =>
        obtain ⟨vs, h1, h2⟩ := this
        refine ⟨vs, ?_, RepL.step (G := some _) (G' := some _) hgr m hS hM cs vs h2⟩
        rw [hg2 k e2]
        exact h1.mut m (fun b hb' => hsepk b (by unfold blkOf; rw [hk]; exact hb'))
      | dead => trivial
  · by_cases e1 : k = id
    · by_cases e2 : k' = id
      · rw [e1, e2]
      · subst e1
        rw [hne k' e2] at h2
        have hlt := (h.new k' b h2).1
        exact absurd (h.sep k k' b ((hb b h1).2 hlt) h2) (fun e => e2 e.symm)
    · by_cases e2 : k' = id
      · subst e2
        rw [hne k e1] at h1
        have hlt := (h.new k b h1).1
        exact absurd (h.sep k k' b h1 ((hb b h2).2 hlt)) e1
      · rw [hne k e1] at h1; rw [hne k' e2] at h2; exact h.sep k k' b h1 h2
  · by_cases e1 : k = id
    · subst e1
      have h1 := hb b hk
      refine ⟨h1.1, fun hlt => ?_, fun hm => ?_⟩
      · exact (h.new k b (h1.2 (Nat.lt_of_lt_of_le hlt h.chg.size))).2.1 hlt
      · have hlt : b < w.heap.size := Nat.lt_of_lt_of_le (h.m0 b hm) h.chg.size
        exact (h.new k b (h1.2 hlt)).2.2 hm
    · rw [hne k e1] at hk
      have := h.new k b hk
      exact ⟨Nat.lt_of_lt_of_le this.1 m.size, this.2⟩
end Go.Dm

set_option linter.unusedSimpArgs false
set_option linter.unusedVariables false
set_option linter.unusedSectionVars false
set_option maxHeartbeats 400000
namespace Go.Dm
open Go Go.RowKit Go.PP
variable [GlobW] [Rnd]

def evalD (f : Fr) : Operand → D
  | .tmp t => lkF f t
  | .const v => .flat v
  | .global g => .flat (.pointer (some ⟨g, 0, none⟩))
  | .func k => .flat (.func (.func k) #[] #[])

def Evs (f : Fr) : List (Operand × D) → Prop
  | [] => True
  | p :: r => evalD f p.1 = p.2 ∧ Evs f r
def Ens (σ : Sg) : List (Nat × Option Ent) → Prop
  | [] => True
  | p :: r => lkE σ p.1 = p.2 ∧ Ens σ r
theorem Evs.mem {f : Fr} : ∀ {l : List (Operand × D)}, Evs f l → ∀ p ∈ l, evalD f p.1 = p.2
  | [], _, p, hp => by simp at hp
  | q :: r, h, p, hp => by
    rcases List.mem_cons.1 hp with rfl | hp
    · exact h.1
    · exact Evs.mem h.2 p hp
theorem Evs.of {f : Fr} : ∀ {l : List (Operand × D)}, (∀ p ∈ l, evalD f p.1 = p.2) → Evs f l
  | [], _ => trivial
  | q :: r, h => ⟨h q (by simp), Evs.of fun p hp => h p (by simp [hp])⟩
theorem Ens.mem {f : Sg} : ∀ {l : List (Nat × Option Ent)}, Ens f l → ∀ p ∈ l, lkE f p.1 = p.2
  | [], _, p, hp => by simp at hp
  | q :: r, h, p, hp => by
    rcases List.mem_cons.1 hp with rfl | hp
    · exact h.1
    · exact Ens.mem h.2 p hp
theorem Ens.of {f : Sg} : ∀ {l : List (Nat × Option Ent)}, (∀ p ∈ l, lkE f p.1 = p.2) → Ens f l
  | [], _ => trivial
  | q :: r, h => ⟨h q (by simp), Ens.of fun p hp => h p (by simp [hp])⟩

theorem StG.eval {w0 : World} {M0 : Nat → Prop} {B0 : Bd} {N : Nat} {g : Gh} {s : DS} {a : Act} {w : World} (h : StG w0 M0 B0 N g s a w) (x : Operand) : Rep (Mx M0 g s.σ) w (some (g, s.σ)) (evalD s.f x) (a.eval x) := by
  cases x with
  | tmp t => exact h.tm t
  | const v => simp [evalD, Act.eval, Rep]
  | global g => simp [evalD, Act.eval, Rep]
  | func k => simp [evalD, Act.eval, Rep]
theorem StG.mlt {w0 : World} {M0 : Nat → Prop} {B0 : Bd} {N : Nat} {g : Gh} {s : DS} {a : Act} {w : World} (h : StG w0 M0 B0 N g s a w) : ∀ b, Mx M0 g s.σ b → b < w.heap.size := by
  rintro b (hb | ⟨id, hb⟩)
  · exact Nat.lt_of_lt_of_le (h.m0 b hb) h.chg.size
  · exact (h.new id b hb).1

/-- What an operation does: from the operands pf and the boxes and rows pe it makes d and writes we. -/
structure Tri (P : Program) (N : Nat) (o : Oper) (pf : List (Operand × D)) (pe : List (Nat × Option Ent)) (d : D) (we : Sg) : Prop where
  intro ::
  go : ∀ (w0 : World) (M0 : Nat → Prop) (B0 : Bd) (s : DS) (a : Act) (w : World) (next : Act → World → Prop) (Q : Exit → Act → World → Prop),
    Evs s.f pf → Ens s.σ pe → dstOk N o.dst = true → St w0 M0 B0 N s a w →
    (∀ a' w', St w0 M0 B0 N ⟨updF s.f o.dst d, we ++ s.σ⟩ a' w' → next a' w') → o.wpIn (FW Rnd.r) 0 P a w next Q

/-- The values of operands stand for their data. -/
def Vals (M : Nat → Prop) (w : World) (G : Cx) (ρ : Operand → Value) : List (Operand × D) → Prop
  | [] => True
  | p :: r => Rep M w G p.2 (ρ p.1) ∧ Vals M w G ρ r
theorem StG.vals {w0 : World} {M0 : Nat → Prop} {B0 : Bd} {N : Nat} {g : Gh} {s : DS} {a : Act} {w : World} (h : StG w0 M0 B0 N g s a w) : ∀ {pf : List (Operand × D)}, Evs s.f pf → Vals (Mx M0 g s.σ) w (some (g, s.σ)) a.eval pf
  | [], _ => trivial
  | p :: r, h1 => ⟨by rw [← h1.1]; exact h.eval p.1, StG.vals h h1.2⟩

/-- An operation that changes nothing that is there. -/
theorem Tri.run {P : Program} {N : Nat} {o : Oper} {pf : List (Operand × D)} {d : D} (hrun : ∀ (M : Nat → Prop) (w : World) (G : Cx) (ρ : Operand → Value), (∀ b, M b → b < w.heap.size) → Vals M w G ρ pf →
    ∃ v w', (execOp ρ o).run P w = .ok (.value v) w' ∧ Fix w w' ∧ Rep M w' G d v) : Tri P N o pf [] d [] := by
  refine ⟨?_⟩
  intro w0 M0 B0 s a w next Q h1 h2 hd ⟨g, hs⟩ hk
  obtain ⟨v, w', hr, hm, hv⟩ := hrun _ w (some (g, s.σ)) a.eval hs.mlt (hs.vals h1)
  exact opIn_val hr (hk _ _ ⟨g, hs.pure hm hd hv⟩)
theorem Tri.val {P : Program} {N : Nat} {o : Oper} {pf : List (Operand × D)} {d : D} (hrun : ∀ (M : Nat → Prop) (w : World) (G : Cx) (ρ : Operand → Value), Vals M w G ρ pf →
    ∃ v, (execOp ρ o).run P w = .ok (.value v) w ∧ Rep M w G d v) : Tri P N o pf [] d [] :=
  Tri.run fun M w G ρ _ h => by
    obtain ⟨v, h1, h2⟩ := hrun M w G ρ h
    exact ⟨v, w, h1, Mut.refl _ w, h2⟩

/-! ### a list of steps in any order -/
/-- What a step reads and writes. -/
structure Sd where
  dst : Option Tmp
  pf : List (Operand × D)
  pe : List (Nat × Option Ent)
  d : D
  we : Sg
/-- The same without the data. -/
structure Fp where
  dst : Option Tmp
  rd : List Nat
  re : List Nat
  we : List Nat
def tmpsOf : List (Operand × D) → List Nat
  | [] => []
  | (.tmp t, _) :: r => t :: tmpsOf r
  | (_, _) :: r => tmpsOf r
def keys {α : Type} : List (Nat × α) → List Nat
  | [] => []
  | p :: r => p.1 :: keys r
def Sd.fp (s : Sd) : Fp := ⟨s.dst, tmpsOf s.pf, keys s.pe, keys s.we⟩

def Stp (P : Program) (N : Nat) (ops : Array Oper) (i : Nat) (q : Sd) : Prop :=
  ∀ (w0 : World) (M0 : Nat → Prop) (B0 : Bd) (s : DS) (a : Act) (w : World) (K : Act → World → Prop) (Q : Exit → Act → World → Prop),
    Evs s.f q.pf → Ens s.σ q.pe → St w0 M0 B0 N s a w →
    (∀ a' w', St w0 M0 B0 N ⟨updF s.f q.dst q.d, q.we ++ s.σ⟩ a' w' → K a' w') → wpOpIn (FW Rnd.r) 0 P ops Q i K a w

theorem Stp.tri {P : Program} {N : Nat} {ops : Array Oper} {i : Nat} {o : Oper} {pf : List (Operand × D)} {pe : List (Nat × Option Ent)} {d : D} {we : Sg} (ho : ops[i]? = some o) (hg : o.guard = none) (hd : dstOk N o.dst = true) (ht : Tri P N o pf pe d we) :
    Stp P N ops i ⟨o.dst, pf, pe, d, we⟩ := by
  intro w0 M0 B0 s a w K Q h1 h2 hs hk
  unfold wpOpIn
  rw [ho]
  simp only [Region.wanted, hg, if_true]
  exact (ht.go w0 M0 B0 s a w K Q h1 h2 hd hs hk)
def boolOf : Value → Option Bool
  | .bool b => some b
  | _ => none
theorem yielded_of {ops : Array Oper} {j : Nat} {t : Tmp} {a : Act} (hj : (ops[j]?).bind (·.dst) = some t) (hz : a.tmps.getD t undef ≠ undef ∨ t < a.tmps.size) : yielded ops a.tmps j = boolOf (a.tmps.getD t undef) := by
  have ht : t < a.tmps.size := by
    rcases hz with hz | hz
    · refine Classical.byContradiction fun h => hz ?_
      simp [Array.getElem?_eq_none (Nat.le_of_not_lt h)]
    · exact hz
  unfold yielded
  rw [hj]
  simp only [Option.bind_some, Array.getD_eq_getD_getElem?, ht, Array.getElem?_eq_getElem, Option.getD_some]
  cases a.tmps[t] <;> rfl
theorem Stp.on {P : Program} {N : Nat} {ops : Array Oper} {i j : Nat} {t : Tmp} {b : Bool} {o : Oper} {pf : List (Operand × D)} {pe : List (Nat × Option Ent)} {d : D} {we : Sg} (ho : ops[i]? = some o) (hg : o.guard = some (j, b)) (hj : (ops[j]?).bind (·.dst) = some t) (hd : dstOk N o.dst = true) (ht : Tri P N o pf pe d we) :
    Stp P N ops i ⟨o.dst, (.tmp t, .flat (.bool b)) :: pf, pe, d, we⟩ := by
  intro w0 M0 B0 s a w K Q h1 h2 hs hk
  obtain ⟨g, hg'⟩ := id hs
  have hv := hg'.tm t
  have e1 : lkF s.f t = .flat (.bool b) := h1.1
  rw [e1] at hv
  simp only [Rep] at hv
  have hy := yielded_of (ops := ops) (j := j) (a := a) hj (.inl (by rw [hv]; simp [undef]))
  rw [hv] at hy
  unfold wpOpIn
  rw [ho]
  simp only [Region.wanted, hg, hy, boolOf, beq_self_eq_true, if_true]
  exact (ht.go w0 M0 B0 s a w K Q h1.2 h2 hd hs hk)
theorem Stp.off {P : Program} {N : Nat} {ops : Array Oper} {i j : Nat} {t : Tmp} {b : Bool} {v : Value} {o : Oper} (ho : ops[i]? = some o) (hg : o.guard = some (j, b)) (hj : (ops[j]?).bind (·.dst) = some t) (htn : t < N % 512) (hd : dstOk N o.dst = true) (hv : (boolOf v != some b) = true) :
    Stp P N ops i ⟨o.dst, [(.tmp t, .flat v)], [], .flat undef, []⟩ := by
  intro w0 M0 B0 s a w K Q h1 h2 ⟨g, hs⟩ hk
  have hv' := hs.tm t
  have e1 : lkF s.f t = .flat v := h1.1
  rw [e1] at hv'
  simp only [Rep] at hv'
  have hy := yielded_of (ops := ops) (j := j) (a := a) hj (.inr (by rw [hs.sz]; exact htn))
  rw [hv'] at hy
  have hw : Region.wanted o (yielded ops a.tmps) = false := by
    simp only [Region.wanted, hg, hy]
    simpa using hv
  unfold wpOpIn
  rw [ho]
  simp only [hw, Bool.false_eq_true, if_false]
  refine ⟨fun f _ => trivial, ?_⟩
  exact hk _ _ ⟨g, hs.pure (Mut.refl _ w) hd (by simp [Rep])⟩

/-- Steps one behind the other, from number i on. -/
inductive DSeq (P : Program) (N : Nat) (ops : Array Oper) : Nat → List Oper → DS → DS → List Sd → Prop
  | nil {i : Nat} {s : DS} : DSeq P N ops i [] s s []
  | cons {i : Nat} {o : Oper} {l : List Oper} {s s' : DS} {q : Sd} {qs : List Sd} (hs : ops[i]? = some o → Stp P N ops i q) (h1 : Evs s.f q.pf) (h2 : Ens s.σ q.pe) (hk : DSeq P N ops (i + 1) l ⟨updF s.f q.dst q.d, q.we ++ s.σ⟩ s' qs) : DSeq P N ops i (o :: l) s s' (q :: qs)

theorem wpOps_range {P : Program} {ops : Array Oper} {Q : Exit → Act → World → Prop} {N : Nat} {w0 : World} {M0 : Nat → Prop} {B0 : Bd} {i : Nat} {l : List Oper} {s s' : DS} {qs : List Sd} (h : DSeq P N ops i l s s' qs) : ∀ (a : Act) (w : World), (∀ j, l[j]? = ops[i + j]?) → St w0 M0 B0 N s a w → (∀ a' w', St w0 M0 B0 N s' a' w' → Q .normal a' w') →
    wpOpsIn (FW Rnd.r) 0 P ops Q (List.range' i l.length) a w := by
  induction h with
  | nil => intro a w _ hs hq; exact hq a w hs
  | @cons i o l s s' q qs hst h1 h2 hk ih =>
    intro a w hl hs hq
    have ho : ops[i]? = some o := by have := hl 0; simpa using this.symm
    rw [List.length_cons, List.range'_succ, wpOpsIn_cons]
    exact hst ho w0 M0 B0 s a w _ _ h1 h2 hs fun a' w' h3 => ih a' w' (fun j => by have := hl (j + 1); rw [List.getElem?_cons_succ] at this; rw [this]; congr 1; omega) h3 hq

/-! ### any order -/
def fnd {α : Type} (u : List (Nat × α)) (k : Nat) : Option α := match u with
  | [] => none
  | p :: r => bif p.1 == k then some p.2 else fnd r k
theorem fnd_none {α : Type} {k : Nat} : ∀ {u : List (Nat × α)}, k ∉ keys u → fnd u k = none
  | [], _ => rfl
  | p :: r, h => by
    simp only [keys, List.mem_cons, not_or] at h
    have hb : (p.1 == k) = false := by
      cases hb : (p.1 == k) with
      | false => rfl
      | true => exact absurd (eq_of_beq hb).symm h.1
    simp [fnd, hb, fnd_none h.2]
theorem fnd_some {α : Type} {k : Nat} : ∀ {u : List (Nat × α)}, k ∈ keys u → ∃ x, fnd u k = some x
  | [], h => by simp [keys] at h
  | p :: r, h => by
    simp only [keys, List.mem_cons] at h
    by_cases hb : (p.1 == k) = true
    · exact ⟨p.2, by simp [fnd, hb]⟩
    · have hb' : (p.1 == k) = false := Bool.eq_false_iff.2 hb
      rcases h with h | h
      · subst h; simp at hb'
      · obtain ⟨x, hx⟩ := fnd_some h
        exact ⟨x, by simp [fnd, hb', hx]⟩
theorem lkF_app (u f : Fr) (k : Nat) : lkF (u ++ f) k = (fnd u k).getD (lkF f k) := by
  induction u with
  | nil => rfl
  | cons p r ih =>
    obtain ⟨a, b⟩ := p
    simp only [List.cons_append, lkF, fnd]
    cases (a == k) <;> simp [ih]
theorem lkE_app (u f : Sg) (k : Nat) : lkE (u ++ f) k = (fnd u k).getD (lkE f k) := by
  induction u with
  | nil => rfl
  | cons p r ih =>
    obtain ⟨a, b⟩ := p
    simp only [List.cons_append, lkE, fnd]
    cases (a == k) <;> simp [ih]

/-- The last that has been written at k by those of L. -/
def lastW {α : Type} (L : Nat → Bool) (k : Nat) : Nat → List (List (Nat × α)) → Option α
  | _, [] => none
  | i, u :: us => match lastW L k (i + 1) us with
    | some x => some x
    | none => if L i = true then fnd u k else none
theorem lastW_congr {α : Type} {L L' : Nat → Bool} {k : Nat} : ∀ {us : List (List (Nat × α))} {i i' : Nat}, (∀ j u, us[j]? = some u → k ∈ keys u → L (i + j) = L' (i' + j)) → lastW L k i us = lastW L' k i' us
  | [], _, _, _ => rfl
  | u :: us, i, i', h => by
    have h1 := lastW_congr (L := L) (L' := L') (k := k) (us := us) (i := i + 1) (i' := i' + 1) (fun j v hj hk => by
      have := h (j + 1) v (by simpa using hj) hk
      rwa [show i + 1 + j = i + (j + 1) by omega, show i' + 1 + j = i' + (j + 1) by omega])
    simp only [lastW, h1]
    cases hw : lastW L' k (i' + 1) us with
    | some x => rfl
    | none =>
      by_cases hk : k ∈ keys u
      · have := h 0 u (by simp) hk
        simp only [Nat.add_zero] at this
        rw [this]
      · simp [fnd_none hk]
theorem lastW_last {α : Type} {L : Nat → Bool} {k : Nat} {x : α} : ∀ {us : List (List (Nat × α))} {b i : Nat} {u : List (Nat × α)}, us[i]? = some u → fnd u k = some x → L (b + i) = true → (∀ j v, i < j → us[j]? = some v → k ∈ keys v → L (b + j) = false) → lastW L k b us = some x
  | [], _, _, _, h, _, _, _ => by simp at h
  | u0 :: us, b, 0, u, h, hx, hL, hn => by
    simp only [List.getElem?_cons_zero, Option.some.injEq] at h
    subst h
    have h0 : lastW L k (b + 1) us = none := by
      rw [lastW_congr (L' := fun _ => false) (i' := 0) (fun j v hj hk => by
        have := hn (j + 1) v (by omega) (by simpa using hj) hk
        rw [show b + 1 + j = b + (j + 1) by omega]; exact this)]
      clear hn hx hL
      generalize (0 : Nat) = m
      induction us generalizing m with
      | nil => rfl
      | cons v r ih => simp [lastW, ih]
    simp only [Nat.add_zero] at hL
    simp [lastW, h0, hL, hx]
  | u0 :: us, b, i + 1, u, h, hx, hL, hn => by
    have h1 := lastW_last (us := us) (b := b + 1) (i := i) (u := u) (by simpa using h) hx (by rw [show b + 1 + i = b + (i + 1) by omega]; exact hL) (fun j v hj hv hk => by
      have := hn (j + 1) v (by omega) (by simpa using hv) hk
      rw [show b + 1 + j = b + (j + 1) by omega]; exact this)
    simp [lastW, h1]

theorem lastW_none {α : Type} {L : Nat → Bool} {k : Nat} (hL : ∀ m, L m = false) : ∀ {us : List (List (Nat × α))} {b : Nat}, lastW L k b us = none
  | [], _ => rfl
  | u :: us, b => by simp [lastW, lastW_none hL (us := us), hL]
def Sd.uf (q : Sd) : List (Nat × D) := match q.dst with
  | some t => [(t, q.d)]
  | none => []
theorem updF_app (f : Fr) (q : Sd) : updF f q.dst q.d = q.uf ++ f := by unfold Sd.uf updF; cases q.dst <;> rfl

/-- Lookups in the state after those of L. -/
def AtF (L : Nat → Bool) (qs : List Sd) (f : Fr) (t : Nat) : D := (lastW L t 0 (qs.map Sd.uf)).getD (lkF f t)
def AtE (L : Nat → Bool) (qs : List Sd) (σ : Sg) (t : Nat) : Option Ent := (lastW L t 0 (qs.map Sd.we)).getD (lkE σ t)

theorem at_cons {α β : Type} (L L' : Nat → Bool) (hL : ∀ m, L' m = L (m + 1)) (u : List (Nat × α)) (us : List (List (Nat × α))) (k : Nat) (x : α) (h0 : L 0 = true) :
    (lastW L k 0 (u :: us)).getD x = (lastW L' k 0 us).getD ((fnd u k).getD x) := by
  have h1 : lastW L k 1 us = lastW L' k 0 us := lastW_congr fun j v _ _ => by rw [hL]; congr 1; omega
  simp only [lastW, h1, h0, if_true]
  cases lastW L' k 0 us <;> simp

theorem DSeq.facts {P : Program} {N : Nat} {ops : Array Oper} {i : Nat} {l : List Oper} {s s' : DS} {qs : List Sd} (h : DSeq P N ops i l s s' qs) :
    qs.length = l.length ∧ (∀ t, lkF s'.f t = AtF (fun _ => true) qs s.f t) ∧ (∀ t, lkE s'.σ t = AtE (fun _ => true) qs s.σ t) ∧
    ∀ j q, qs[j]? = some q → (l[j]? = ops[i + j]? → Stp P N ops (i + j) q) ∧ ∃ sj : DS, Evs sj.f q.pf ∧ Ens sj.σ q.pe ∧ (∀ t, lkF sj.f t = AtF (fun m => decide (m < j)) qs s.f t) ∧ (∀ t, lkE sj.σ t = AtE (fun m => decide (m < j)) qs s.σ t) := by
  induction h with
  | nil => exact ⟨rfl, fun t => rfl, fun t => rfl, fun j q hq => by simp at hq⟩
  | @cons i o l s s' q qs hst h1 h2 hk ih =>
    obtain ⟨i1, i2, i3, i4⟩ := ih
    refine ⟨by simp [i1], fun t => ?_, fun t => ?_, fun j q' hq => ?_⟩
    · rw [i2, AtF, AtF, List.map_cons, at_cons (β := Unit) (fun _ => true) (fun _ => true) (fun _ => rfl) _ _ _ _ rfl, updF_app, lkF_app]
    · rw [i3, AtE, AtE, List.map_cons, at_cons (β := Unit) (fun _ => true) (fun _ => true) (fun _ => rfl) _ _ _ _ rfl, lkE_app]
    · cases j with
      | zero =>
        simp only [List.getElem?_cons_zero, Option.some.injEq] at hq
        subst hq
        refine ⟨fun e => hst (by simpa using e.symm), s, h1, h2, fun t => ?_, fun t => ?_⟩
        · rw [AtF, lastW_none (by simp)]; rfl
        · rw [AtE, lastW_none (by simp)]; rfl
      | succ j =>
        simp only [List.getElem?_cons_succ] at hq
        obtain ⟨h3, sj, h4, h5, h6, h7⟩ := i4 j q' hq
        refine ⟨fun e => ?_, sj, h4, h5, fun t => ?_, fun t => ?_⟩
        · have := h3 (by rw [List.getElem?_cons_succ] at e; rw [e]; congr 1; omega)
          rwa [show i + (j + 1) = i + 1 + j by omega]
        · rw [h6, AtF, AtF, List.map_cons, at_cons (β := Unit) (fun m => decide (m < j + 1)) (fun m => decide (m < j)) (fun m => by simp) _ _ _ _ (by simp), updF_app, lkF_app]
        · rw [h7, AtE, AtE, List.map_cons, at_cons (β := Unit) (fun m => decide (m < j + 1)) (fun m => decide (m < j)) (fun m => by simp) _ _ _ _ (by simp), lkE_app]

theorem St.congr {w0 : World} {M0 : Nat → Prop} {B0 : Bd} {N : Nat} {s s' : DS} {a : Act} {w : World} (hf : ∀ t, lkF s.f t = lkF s'.f t) (hσ : ∀ t, lkE s.σ t = lkE s'.σ t) (h : St w0 M0 B0 N s a w) : St w0 M0 B0 N s' a w := by
  obtain ⟨g, h⟩ := h
  have hb : ∀ id, blkOf g s'.σ id = blkOf g s.σ id := fun id => by unfold blkOf; rw [hσ]
  have hG : Grow (g, s.σ) (g, s'.σ) := ⟨fun id cs q => ⟨⟨cs, by rw [← hσ]; exact q⟩, rfl⟩, fun id e n len cs q => .inr ⟨e, n, len, cs, by rw [← hσ]; exact q, Nat.le_refl _, fun _ => rfl⟩, fun id q => by simp only at q ⊢; rw [← hσ]; exact q⟩
  have hM : ∀ b, Mx M0 g s'.σ b → Mx M0 g s.σ b := by
    rintro b (q | ⟨id, q⟩)
    · exact .inl q
    · exact .inr ⟨id, by rw [← hb]; exact q⟩
  refine ⟨g, h.chg, h.m0, h.df.step (S := fun _ => False) (Mut.refl _ w) rfl (fun _ _ e => e.elim) (fun id b q _ => ⟨id, by rw [← hb]; exact q⟩), h.sz, fun t => ?_, fun id e he => ?_, fun id id' b q1 q2 => h.sep id id' b (by rw [← hb]; exact q1) (by rw [← hb]; exact q2), fun id b q => h.new id b (by rw [← hb]; exact q), h.anc.grow hG (fun id h1 h2 => absurd ((hσ id).symm.trans h1) h2), h.glo⟩
  · rw [← hf]
    exact (h.tm t).step (S := fun _ => False) (G := some _) (G' := some _) hG (Mut.refl _ w) (fun _ _ e => e.elim) (fun b _ q => hM b q)
  · have := h.ent id e (by rw [hσ]; exact he)
    cases e with
    | box cs =>
      obtain ⟨vs, T, q1, q2, q3⟩ := this
      exact ⟨vs, T, q1, RepL.step (S := fun _ => False) (G := some _) (G' := some _) hG (Mut.refl _ w) (fun _ _ e => e.elim) (fun b _ q => hM b q) cs vs q2, q3⟩
    | row e n len cs =>
      obtain ⟨vs, q1, q2⟩ := this
      exact ⟨vs, q1, RepL.step (S := fun _ => False) (G := some _) (G' := some _) hG (Mut.refl _ w) (fun _ _ e => e.elim) (fun b _ q => hM b q) cs vs q2⟩
    | dead => trivial

def anyIn (l r : List Nat) : Bool := l.any fun x => r.any fun y => Nat.beq x y
def isDst (o : Option Tmp) (l : List Nat) : Bool := match o with
  | some t => l.any fun y => Nat.beq t y
  | none => false
/-- One of two steps writes what the other reads or writes. -/
def clash (p q : Fp) : Bool :=
  isDst p.dst q.rd || isDst q.dst p.rd || isDst p.dst q.dst.toList || anyIn p.we q.re || anyIn p.we q.we || anyIn q.we p.re
theorem anyIn_of {l r : List Nat} {x : Nat} (h1 : x ∈ l) (h2 : x ∈ r) : anyIn l r = true := by
  simp only [anyIn, List.any_eq_true]
  exact ⟨x, h1, x, h2, by simp⟩
theorem isDst_of {o : Option Tmp} {l : List Nat} {t : Nat} (h : o = some t) (h2 : t ∈ l) : isDst o l = true := by
  subst h
  simp only [isDst, List.any_eq_true]
  exact ⟨t, h2, by simp⟩
def rOk (ms : List Nat) (fps : List Fp) : Bool :=
  (List.range fps.length).all fun j => (List.range j).all fun i => Nat.testBit (ms.getD j 0) i || (match fps[i]?, fps[j]? with
    | some p, some q => !clash p q
    | _, _ => true)

theorem tmpsOf_mem {pf : List (Operand × D)} {t : Nat} {d : D} (h : (Operand.tmp t, d) ∈ pf) : t ∈ tmpsOf pf := by
  induction pf with
  | nil => simp at h
  | cons p r ih =>
    obtain ⟨x, e⟩ := p
    rcases List.mem_cons.1 h with h | h
    · cases h; simp [tmpsOf]
    · have := ih h
      cases x <;> simp [tmpsOf, this]
theorem keys_mem {α : Type} {l : List (Nat × α)} {p : Nat × α} (h : p ∈ l) : p.1 ∈ keys l := by
  induction l with
  | nil => simp at h
  | cons q r ih =>
    rcases List.mem_cons.1 h with rfl | h
    · simp [keys]
    · simp [keys, ih h]
theorem keys_uf {q : Sd} {k : Nat} (h : k ∈ keys q.uf) : q.dst = some k := by
  unfold Sd.uf at h
  cases hd : q.dst with
  | none => rw [hd] at h; simp [keys] at h
  | some t => rw [hd] at h; simp [keys] at h; rw [h]

theorem waits_listed {ops : Array Oper} {L : Array Bool} (inv : DownClosed .any ops L) {i j : Nat} (hw : Waits .any ops j i) (hj : L.getD j false = true) (ho : ∃ o, ops[j]? = some o) : L.getD i false = true := by
  obtain ⟨f, hf⟩ := hw
  exact waitsT_listed inv f j i (fun oj hoj e he hb => inv j oj hj hoj e he hb) hf
theorem waits_ready {ops : Array Oper} {L : Array Bool} (inv : DownClosed .any ops L) {i j : Nat} (hw : Waits .any ops j i) (hj : j ∈ Region.ready .any ops L) : L.getD i false = true := by
  obtain ⟨f, hf⟩ := hw
  obtain ⟨_, o, ho, hall⟩ := mem_ready.1 hj
  exact waitsT_listed inv f j i (fun oj hoj e he hb => hall e (by rw [ho] at hoj; cases hoj; exact he) hb) hf

theorem all_listed2 {ops : Array Oper} {L : Array Bool} (hr : Region.ready .any ops L = []) (ht : ((List.range ops.size).all fun i => ((ops[i]?).map fun o => o.after.all fun e => !Region.binds .any e || decide (e.on < i)).getD true) = true) (hL : L.size = ops.size) :
    ∀ i, i < ops.size → L.getD i false = true := by
  intro i
  induction i using Nat.strongRecOn with
  | _ i ih =>
    intro hi
    refine Classical.byContradiction fun hn => ?_
    have hf : L.getD i true = false := by
      have hx : i < L.size := by omega
      simp [hx] at hn ⊢
      exact hn
    have ho : ops[i]? = some ops[i] := by simp
    have hm : i ∈ Region.ready .any ops L := mem_ready.2 ⟨hf, _, ho, fun e he hb => by
      have := List.all_eq_true.1 ht i (List.mem_range.2 hi)
      rw [ho, Option.map_some, Option.getD_some, Array.all_eq_true] at this
      obtain ⟨n, hn', rfl⟩ := Array.mem_iff_getElem.1 he
      have h1 := this n hn'
      rw [hb] at h1
      have hlt := of_decide_eq_true (by simpa using h1 : decide ((ops[i].after[n]).on < i) = true)
      exact ih _ hlt (by omega)⟩
    rw [hr] at hm; cases hm

/-- **A region that draws its order**, walked in the text's order. -/
theorem wp_drawn {P : Program} {Q : Exit → Act → World → Prop} {N id : Nat} {l : List Oper} {s s' : DS} {qs : List Sd} (hm : P.follows .mixedOrders = true) (hseq : DSeq P N l.toArray 0 l s s' qs)
    (hok : rOk (masks .any l []) (qs.map Sd.fp) = true) (hlt : ((List.range l.length).all fun i => ((l[i]?).map fun o => o.after.all fun e => !Region.binds .any e || decide (e.on < i)).getD true) = true)
    {w0 : World} {M0 : Nat → Prop} {B0 : Bd} {a : Act} {w : World} (hs : St w0 M0 B0 N s a w) (hq : ∀ a' w', St w0 M0 B0 N s' a' w' → Q .normal a' w') : (Code.region id l.toArray true).wpIn (FW Rnd.r) 0 P Q a w := by
  obtain ⟨f1, f2, f3, f4⟩ := hseq.facts
  have hms := masks_spec (md := .any) (ops := l.toArray) l [] (by simp) (by simp)
  have hclash : ∀ (i j : Nat) p q, i < j → qs[i]? = some p → qs[j]? = some q → clash p.fp q.fp = true → Waits .any l.toArray j i := by
    intro i j p q hij hi hj hc
    have hjl : j < qs.length := (List.getElem?_eq_some_iff.1 hj).1
    have h1 := List.all_eq_true.1 hok j (by simpa using hjl)
    have h2 := List.all_eq_true.1 h1 i (List.mem_range.2 hij)
    simp only [List.getElem?_map, hi, hj, Option.map_some, hc, Bool.not_true, Bool.or_false] at h2
    exact hms j i h2
  refine wpIn_region_inv3 (fun a0 L a' w' => L.size = l.length ∧ ∃ s1 : DS, (∀ t, lkF s1.f t = AtF (fun m => L.getD m false) qs s.f t) ∧ (∀ t, lkE s1.σ t = AtE (fun m => L.getD m false) qs s.σ t) ∧ St w0 M0 B0 N s1 a' w') hm ?_ ?_ ?_
  · rintro L a' w' i ⟨hL, s1, g1, g2, hs1⟩ dc hi
    obtain ⟨hni, o, ho, hall⟩ := mem_ready.1 hi
    have hil : i < l.length := by have := (Array.getElem?_eq_some_iff.1 ho).1; simpa using this
    have hnf : L.getD i false = false := getD_not_both hni
    obtain ⟨q, hq'⟩ : ∃ q, qs[i]? = some q := ⟨qs[i]'(by omega), by simp⟩
    obtain ⟨hst, sj, e1, e2, e3, e4⟩ := f4 i q hq'
    have hstp := hst (by simp)
    rw [Nat.zero_add] at hstp
    have agF : ∀ t, t ∈ q.fp.rd → AtF (fun m => L.getD m false) qs s.f t = AtF (fun m => decide (m < i)) qs s.f t := fun t ht => by
      unfold AtF
      rw [lastW_congr (L' := fun m => decide (m < i)) (i' := 0) (fun j u hj hk => ?_)]
      rw [Nat.zero_add]
      rw [List.getElem?_map] at hj
      obtain ⟨p, hp, rfl⟩ := Option.map_eq_some_iff.1 hj
      have hd := keys_uf hk
      rcases Nat.lt_trichotomy j i with h | h | h
      · have hw := hclash j i p q h hp hq' (by simp only [clash, Sd.fp]; rw [isDst_of (l := tmpsOf q.pf) hd ht]; simp)
        rw [waits_ready dc hw hi]; simp [h]
      · subst h; rw [hnf]; simp
      · have hw := hclash i j q p h hq' hp (by simp only [clash, Sd.fp]; rw [isDst_of (l := tmpsOf q.pf) hd ht]; simp)
        have : L.getD j false = false := by
          cases hj2 : L.getD j false with
          | false => rfl
          | true =>
            have := waits_listed dc hw hj2 ⟨l[j]'(by have := (List.getElem?_eq_some_iff.1 hp).1; omega), by simp⟩
            rw [hnf] at this; cases this
        rw [this]; simp; omega
    have agE : ∀ t, t ∈ q.fp.re → AtE (fun m => L.getD m false) qs s.σ t = AtE (fun m => decide (m < i)) qs s.σ t := fun t ht => by
      unfold AtE
      rw [lastW_congr (L' := fun m => decide (m < i)) (i' := 0) (fun j u hj hk => ?_)]
      rw [Nat.zero_add]
      rw [List.getElem?_map] at hj
      obtain ⟨p, hp, rfl⟩ := Option.map_eq_some_iff.1 hj
      rcases Nat.lt_trichotomy j i with h | h | h
      · have hw := hclash j i p q h hp hq' (by simp only [clash, Sd.fp]; rw [anyIn_of (r := keys q.pe) hk ht]; simp)
        rw [waits_ready dc hw hi]; simp [h]
      · subst h; rw [hnf]; simp
      · have hw := hclash i j q p h hq' hp (by simp only [clash, Sd.fp]; rw [anyIn_of (r := keys q.pe) hk ht]; simp)
        have : L.getD j false = false := by
          cases hj2 : L.getD j false with
          | false => rfl
          | true =>
            have := waits_listed dc hw hj2 ⟨l[j]'(by have := (List.getElem?_eq_some_iff.1 hp).1; omega), by simp⟩
            rw [hnf] at this; cases this
        rw [this]; simp; omega
    have hset : ∀ m, (L.setIfInBounds i true).getD m false = if m = i then true else L.getD m false := fun m => getD_set_eq (n := l.length) hL hil m false
    have later : ∀ (j : Nat) p, i < j → qs[j]? = some p → clash q.fp p.fp = true → (L.setIfInBounds i true).getD j false = false := fun j p h hp hc => by
      have hw := hclash i j q p h hq' hp hc
      rw [hset, if_neg (by omega)]
      cases hj2 : L.getD j false with
      | false => rfl
      | true =>
        have := waits_listed dc hw hj2 ⟨l[j]'(by have := (List.getElem?_eq_some_iff.1 hp).1; omega), by simp⟩
        rw [hnf] at this; cases this
    refine hstp w0 M0 B0 s1 a' w' _ _ (Evs.of fun p hp => ?_) (Ens.of fun p hp => ?_) hs1 (fun a2 w2 h2 => ⟨by simpa using hL, _, fun t => ?_, fun t => ?_, h2⟩)
    · obtain ⟨x, d⟩ := p
      have := e1.mem _ hp
      cases x with
      | tmp t =>
        simp only [evalD] at this ⊢
        rw [g1, agF t (tmpsOf_mem hp), ← e3]; exact this
      | const v => exact this
      | global v => exact this
      | func v => exact this
    · have := e2.mem _ hp
      rw [g2, agE _ (keys_mem hp), ← e4]; exact this
    · simp only [updF_app, lkF_app, g1, AtF]
      by_cases hk : t ∈ keys q.uf
      · obtain ⟨x, hx⟩ := fnd_some hk
        have hd := keys_uf hk
        rw [lastW_last (L := fun m => (L.setIfInBounds i true).getD m false) (us := qs.map Sd.uf) (b := 0) (i := i) (u := q.uf) (x := x) (by simp [hq']) hx (by rw [Nat.zero_add, hset, if_pos rfl]) (fun j v hj hv hkv => ?_), hx]
        · rfl
        · rw [List.getElem?_map] at hv
          obtain ⟨p, hp, rfl⟩ := Option.map_eq_some_iff.1 hv
          rw [Nat.zero_add]
          exact later j p hj hp (by simp only [clash, Sd.fp]; rw [isDst_of (l := p.dst.toList) hd (by rw [keys_uf hkv]; simp)]; simp)
      · rw [fnd_none hk, Option.getD_none, lastW_congr (L' := fun m => (L.setIfInBounds i true).getD m false) (i' := 0) (fun j u hj hkj => ?_)]
        rw [Nat.zero_add, hset]
        by_cases e : j = i
        · subst e
          simp only [List.getElem?_map, hq', Option.map_some, Option.some.injEq] at hj
          subst hj
          exact absurd hkj hk
        · rw [if_neg e]
    · simp only [lkE_app, g2, AtE]
      by_cases hk : t ∈ keys q.we
      · obtain ⟨x, hx⟩ := fnd_some hk
        rw [lastW_last (L := fun m => (L.setIfInBounds i true).getD m false) (us := qs.map Sd.we) (b := 0) (i := i) (u := q.we) (x := x) (by simp [hq']) hx (by rw [Nat.zero_add, hset, if_pos rfl]) (fun j v hj hv hkv => ?_), hx]
        · rfl
        · rw [List.getElem?_map] at hv
          obtain ⟨p, hp, rfl⟩ := Option.map_eq_some_iff.1 hv
          rw [Nat.zero_add]
          exact later j p hj hp (by simp only [clash, Sd.fp]; rw [anyIn_of hk hkv]; simp)
      · rw [fnd_none hk, Option.getD_none, lastW_congr (L' := fun m => (L.setIfInBounds i true).getD m false) (i' := 0) (fun j u hj hkj => ?_)]
        rw [Nat.zero_add, hset]
        by_cases e : j = i
        · subst e
          simp only [List.getElem?_map, hq', Option.map_some, Option.some.injEq] at hj
          subst hj
          exact absurd hkj hk
        · rw [if_neg e]
  · rintro L a' w' ⟨hL, s1, g1, g2, hs1⟩ hr
    have hall := all_listed2 (ops := l.toArray) hr (by simpa using hlt) (by simpa using hL)
    refine (hq _ _ (St.congr (fun t => ?_) (fun t => ?_) hs1))
    · rw [g1, f2, AtF, AtF, lastW_congr (L' := fun _ => true) (i' := 0) (fun j u hj _ => ?_)]
      rw [Nat.zero_add]
      exact hall j (by have := (List.getElem?_eq_some_iff.1 hj).1; simp at this ⊢; omega)
    · rw [g2, f3, AtE, AtE, lastW_congr (L' := fun _ => true) (i' := 0) (fun j u hj _ => ?_)]
      rw [Nat.zero_add]
      exact hall j (by have := (List.getElem?_eq_some_iff.1 hj).1; simp at this ⊢; omega)
  · refine ⟨by simp, s, fun t => ?_, fun t => ?_, ?_⟩
    · rw [AtF, lastW_none (fun m => getD_replicate_false _ _)]; rfl
    · rw [AtE, lastW_none (fun m => getD_replicate_false _ _)]; rfl
    · obtain ⟨g, h⟩ := hs
      exact ⟨g, h.chg.drew, h.m0, h.df.step (S := fun _ => False) (Mut.refl _ w).drew rfl (fun _ _ e => e.elim) (fun id b q _ => ⟨id, q⟩), h.sz, fun t => (h.tm t).fix (Mut.refl _ w).drew, h.entFix (Mut.refl _ w).drew, h.sep, h.new, h.anc, h.glo⟩
end Go.Dm

set_option linter.unusedSimpArgs false
set_option linter.unusedVariables false
set_option linter.unusedSectionVars false
set_option maxHeartbeats 400000
namespace Go.Dm
open Go Go.RowKit Go.PP
variable [GlobW]
section
variable [Rnd]

/-- From this state the code comes to an end of Q. -/
structure DW (P : Program) (N : Nat) (c : Code) (s : DS) (Q : Exit → DS → Prop) : Prop where
  intro ::
  go : ∀ (w0 : World) (M0 : Nat → Prop) (B0 : Bd) (a : Act) (w : World), St w0 M0 B0 N s a w → c.wpIn (FW Rnd.r) 0 P (fun e a' w' => ∃ s', Q e s' ∧ St w0 M0 B0 N s' a' w') a w

def Thn (R : DS → Prop) (Q : Exit → DS → Prop) : Exit → DS → Prop
  | .normal, s => R s
  | e, s => Q e s
def Blk (id : Nat) (Q : Exit → DS → Prop) : Exit → DS → Prop
  | .exit id', s => if id' = id then Q .normal s else Q (.exit id') s
  | e, s => Q e s

section
variable {P : Program} {N : Nat} {Q : Exit → DS → Prop} {s s' : DS}
theorem DW.mono {c : Code} {Q' : Exit → DS → Prop} (h : DW P N c s Q) (hq : ∀ e s, Q e s → Q' e s) : DW P N c s Q' :=
  ⟨fun w0 M0 B0 a w hs => wpIn_mono (h.go w0 M0 B0 a w hs) fun e a w ⟨s', q, r⟩ => ⟨s', hq _ _ q, r⟩⟩
theorem DW.skip (h : Q .normal s) : DW P N .skip s Q := ⟨fun w0 M0 B0 a w hs => wpIn_skip ⟨s, h, hs⟩⟩
theorem DW.label {l : Nat} (h : Q .normal s) : DW P N (.label l) s Q := ⟨fun w0 M0 B0 a w hs => wpIn_label ⟨s, h, hs⟩⟩
theorem DW.exit {id : Nat} (h : Q (.exit id) s) : DW P N (.exit id) s Q := ⟨fun w0 M0 B0 a w hs => wpIn_exit ⟨s, h, hs⟩⟩
theorem DW.ret (h : Q .ret s) : DW P N .ret s Q := ⟨fun w0 M0 B0 a w hs => wpIn_ret ⟨s, h, hs⟩⟩
theorem DW.seq {x y : Code} (h : DW P N x s (Thn (fun s' => DW P N y s' Q) Q)) : DW P N (.seq x y) s Q := ⟨fun w0 M0 B0 a w hs =>
  wpIn_seq (wpIn_mono (h.go w0 M0 B0 a w hs) fun e a' w' ⟨s', q, r⟩ => by
    cases e with
    | normal => exact q.go w0 M0 B0 a' w' r
    | exit id => exact ⟨s', q, r⟩
    | goto l => exact ⟨s', q, r⟩
    | ret => exact ⟨s', q, r⟩
    | panic c => exact ⟨s', q, r⟩
    | outgrown => exact ⟨s', q, r⟩)⟩
theorem DW.block {id : Nat} {c : Code} (h : DW P N c s (Blk id Q)) : DW P N (.block id c) s Q := ⟨fun w0 M0 B0 a w hs =>
  wpIn_block (wpIn_mono (h.go w0 M0 B0 a w hs) fun e a' w' ⟨s', q, r⟩ => by
    cases e with
    | normal => exact ⟨s', q, r⟩
    | exit id' =>
      simp only [Exit.inBlock, Blk] at q ⊢
      split
      · rename_i e; rw [if_pos e] at q; exact ⟨s', q, r⟩
      · rename_i e; rw [if_neg e] at q; exact ⟨s', q, r⟩
    | goto l => exact ⟨s', q, r⟩
    | ret => exact ⟨s', q, r⟩
    | panic c => exact ⟨s', q, r⟩
    | outgrown => exact ⟨s', q, r⟩)⟩
theorem evalBool {w0 : World} {M0 : Nat → Prop} {B0 : Bd} {a : Act} {w : World} (hs : St w0 M0 B0 N s a w) {x : Operand} {v : Value} (hx : evalD s.f x = .flat v) : a.eval x = v := by
  obtain ⟨g, hs⟩ := hs
  have := hs.eval x
  rw [hx] at this
  simpa only [Rep] using this
theorem DW.cond {c : Operand} {x y : Code} {t : Bool} (hc : evalD s.f c = .flat (.bool t)) (ht : t = true → DW P N x s Q) (hf : t = false → DW P N y s Q) : DW P N (.cond c x y) s Q := ⟨fun w0 M0 B0 a w hs =>
  wpIn_cond_split (evalBool hs hc) (fun e => (ht e).go w0 M0 B0 a w hs) (fun e => (hf e).go w0 M0 B0 a w hs)⟩
theorem DW.condT {c : Operand} {x y : Code} (hc : evalD s.f c = .flat (.bool true)) (h : DW P N x s Q) : DW P N (.cond c x y) s Q := DW.cond hc (fun _ => h) (fun e => by cases e)
theorem DW.condF {c : Operand} {x y : Code} (hc : evalD s.f c = .flat (.bool false)) (h : DW P N y s Q) : DW P N (.cond c x y) s Q := DW.cond hc (fun e => by cases e) (fun _ => h)
theorem DW.region {id : Nat} {l : List Oper} {qs : List Sd} (h : DSeq P N l.toArray 0 l s s' qs) (hq : Q .normal s') : DW P N (.region id l.toArray false) s Q := ⟨fun w0 M0 B0 a w hs =>
  wpIn_region (by
    rw [List.range_eq_range']
    exact wpOps_range h a w (fun j => by simp) hs (fun a' w' h' => ⟨s', hq, h'⟩))⟩
theorem DW.drawn {id : Nat} {l : List Oper} {qs : List Sd} (h : DSeq P N l.toArray 0 l s s' qs) (hm : P.follows .mixedOrders = true) (hok : rOk (masks .any l []) (qs.map Sd.fp) = true)
    (hlt : ((List.range l.length).all fun i => ((l[i]?).map fun o => o.after.all fun e => !Region.binds .any e || decide (e.on < i)).getD true) = true) (hq : Q .normal s') : DW P N (.region id l.toArray true) s Q := ⟨fun w0 M0 B0 a w hs =>
  wp_drawn hm h hok hlt hs (fun a' w' h' => ⟨s', hq, h'⟩)⟩
/-- A state that stands for the same memory. -/
def Sub (N : Nat) (s s' : DS) : Prop := ∀ (w0 : World) (M0 : Nat → Prop) (B0 : Bd) (a : Act) (w : World), St w0 M0 B0 N s a w → St w0 M0 B0 N s' a w
theorem Sub.refl (N : Nat) (s : DS) : Sub N s s := fun _ _ _ _ _ h => h
theorem DW.sub {c : Code} (hs : Sub N s s') (h : DW P N c s' Q) : DW P N c s Q := ⟨fun w0 M0 B0 a w hst => h.go w0 M0 B0 a w (hs _ _ _ _ _ hst)⟩
theorem wp_loopX {F : Fence} {n : Nat} {P : Program} {Q : Exit → Act → World → Prop} {X : Type} {c : Code} (I : X → Act → World → Prop) (μ : X → Nat)
    (round : ∀ x a w, I x a w → c.wpIn F n P (Exit.then (fun a' w' => ∃ x', I x' a' w' ∧ μ x' < μ x) Q) a w) {x0 : X} {a : Act} {w : World} (h0 : I x0 a w) : (Code.loop c).wpIn F n P Q a w := by
  intro b k cs hro hb hr
  have key : ∀ j x a w, μ x = j → I x a w → ∃ e a' w', Q e a' w' ∧ ArrivesIn (Machine.fenced P F) P (lone (b.atR a (.code c :: .inLoop c :: k)) cs w) b k cs e a' w' := by
    intro j
    induction j using Nat.strongRecOn with
    | _ j ih =>
      intro x a w hn hI
      obtain ⟨e, a₁, w₁, hq, harr⟩ := round x a w hI b (.inLoop c :: k) cs hro hb hr
      cases e with
      | normal =>
        obtain ⟨x1, hI₁, hlt⟩ := hq
        obtain ⟨e₂, a₂, w₂, hq₂, harr₂⟩ := ih (μ x1) (hn ▸ hlt) x1 a₁ w₁ rfl hI₁
        exact ⟨e₂, a₂, w₂, hq₂, .of_steps (StepsIn.trans harr (.one (fenced_calm hb hr rfl) stepR_inLoop)) harr₂⟩
      | exit id => exact ⟨_, a₁, w₁, hq, .pass (x := .inLoop c) rfl (fun _ _ => .inl (by simp)) harr⟩
      | goto l => exact ⟨_, a₁, w₁, hq, .pass (x := .inLoop c) rfl (fun _ _ => .inl (by simp)) harr⟩
      | ret => exact ⟨_, a₁, w₁, hq, .pass (x := .inLoop c) rfl (fun _ _ => .inl (by simp)) harr⟩
      | panic ch => exact ⟨_, a₁, w₁, hq, .pass (x := .inLoop c) rfl (fun _ _ => .inl (by simp)) harr⟩
      | outgrown => exact ⟨_, a₁, w₁, hq, .pass (x := .inLoop c) rfl (fun _ _ => .inl (by simp)) harr⟩
  obtain ⟨e, a', w', hq, harr⟩ := key _ x0 a w rfl h0
  exact ⟨e, a', w', hq, .of_steps (.one (fenced_calm hb hr rfl) stepR_loop) harr⟩
theorem DW.loop {X : Type} {c : Code} (I : X → DS) (C : X → Prop) (μ : X → Nat) (x0 : X) (h0 : C x0) (hs : Sub N s (I x0))
    (round : ∀ x, C x → DW P N c (I x) (Thn (fun s' => ∃ x', C x' ∧ μ x' < μ x ∧ Sub N s' (I x')) Q)) : DW P N (.loop c) s Q := by
  refine ⟨?_⟩
  intro w0 M0 B0 a w hst
  refine wp_loopX (fun x a w => C x ∧ St w0 M0 B0 N (I x) a w) μ (fun x a w ⟨hc, h⟩ => ?_) (x0 := x0) ⟨h0, hs _ _ _ _ _ hst⟩
  refine wpIn_mono ((round x hc).go w0 M0 B0 a w h) fun e a' w' ⟨s', q, r⟩ => ?_
  cases e with
  | normal =>
    obtain ⟨x', q1, q2, q3⟩ := q
    exact ⟨x', ⟨q1, q3 _ _ _ _ _ r⟩, q2⟩
  | exit id => exact ⟨s', q, r⟩
  | goto l => exact ⟨s', q, r⟩
  | ret => exact ⟨s', q, r⟩
  | panic c => exact ⟨s', q, r⟩
  | outgrown => exact ⟨s', q, r⟩
end

/-! ### data that do without boxes and rows, and without memory -/
mutual
def pers : D → Bool
  | .any | .flat _ | .sl .. | .ptr .. | .ifn | .typ .. => true
  | .agg cs => persL cs
  | .tup cs => persL cs
  | .clo _ a b => persL a && persL b
  | .own .. | .ref .. | .elp .. | .keys .. | .bsl .. | .mp .. | .lrec .. | .yl .. => false
def persL : List D → Bool
  | [] => true
  | d :: ds => pers d && persL ds
end
mutual
def noMem : D → Bool
  | .any | .flat _ | .ifn | .typ .. => true
  | .agg cs => noMemL cs
  | .tup cs => noMemL cs
  | .clo _ a b => noMemL a && noMemL b
  | .own .. | .ref .. | .elp .. | .sl .. | .ptr .. | .keys .. | .bsl .. | .mp .. | .lrec .. | .yl .. => false
def noMemL : List D → Bool
  | [] => true
  | d :: ds => noMem d && noMemL ds
end
mutual
theorem Rep.down {M : Nat → Prop} {w : World} {x : Cx} : ∀ (d : D) (v : Value), pers d = true → Rep M w x d v → Rep M w none d v
  | .any, _, _, _ => by simp only [Rep]
  | .flat v, u, _, h => by simpa only [Rep] using h
  | .agg cs, u, hp, h => by
    simp only [Rep] at h ⊢
    obtain ⟨vs, h1, h2⟩ := h
    exact ⟨vs, h1, RepL.down cs vs (by simpa only [pers] using hp) h2⟩
  | .tup cs, u, hp, h => by
    simp only [Rep] at h ⊢
    obtain ⟨vs, h1, h2⟩ := h
    exact ⟨vs, h1, RepL.down cs vs (by simpa only [pers] using hp) h2⟩
  | .sl full n len cs, u, _, h => by simpa only [Rep] using h
  | .ptr cs off, u, _, h => by simpa only [Rep] using h
  | .own .., u, hp, h => by simp [pers] at hp
  | .ref .., u, hp, h => by simp [pers] at hp
  | .elp .., u, hp, h => by simp [pers] at hp
  | .keys .., u, hp, h => by simp [pers] at hp
  | .bsl .., u, hp, h => by simp [pers] at hp
  | .mp .., u, hp, h => by simp [pers] at hp
  | .lrec .., u, hp, h => by simp [pers] at hp
  | .typ .., u, hp, h => by simp only [Rep]
  | .yl .., u, hp, h => by simp [pers] at hp
  | .ifn, u, hp, h => by simpa only [Rep] using h
  | .clo fn first cap, u, hp, h => by
    simp only [pers, Bool.and_eq_true] at hp
    simp only [Rep] at h ⊢
    obtain ⟨vs, us, h1, h2, h3⟩ := h
    exact ⟨vs, us, h1, RepL.down first vs hp.1 h2, RepL.down cap us hp.2 h3⟩
theorem RepL.down {M : Nat → Prop} {w : World} {x : Cx} : ∀ (ds : List D) (vs : List Value), persL ds = true → RepL M w x ds vs → RepL M w none ds vs
  | [], vs, _, h => by simpa only [RepL] using h
  | d :: ds, vs, hp, h => by
    simp only [persL, Bool.and_eq_true] at hp
    simp only [RepL] at h ⊢
    obtain ⟨u, us, h1, h2, h3⟩ := h
    exact ⟨u, us, h1, Rep.down d u hp.1 h2, RepL.down ds us hp.2 h3⟩
end
mutual
theorem Rep.noMem {M M' : Nat → Prop} {w w' : World} {x x' : Cx} : ∀ (d : D) (v : Value), Dm.noMem d = true → Rep M w x d v → Rep M' w' x' d v
  | .any, _, _, _ => by simp only [Rep]
  | .flat v, u, _, h => by simpa only [Rep] using h
  | .agg cs, u, hp, h => by
    simp only [Rep] at h ⊢
    obtain ⟨vs, h1, h2⟩ := h
    exact ⟨vs, h1, RepL.noMem cs vs (by simpa only [Dm.noMem] using hp) h2⟩
  | .tup cs, u, hp, h => by
    simp only [Rep] at h ⊢
    obtain ⟨vs, h1, h2⟩ := h
    exact ⟨vs, h1, RepL.noMem cs vs (by simpa only [Dm.noMem] using hp) h2⟩
  | .sl .., u, hp, h => by simp [Dm.noMem] at hp
  | .ptr .., u, hp, h => by simp [Dm.noMem] at hp
  | .own .., u, hp, h => by simp [Dm.noMem] at hp
  | .ref .., u, hp, h => by simp [Dm.noMem] at hp
  | .elp .., u, hp, h => by simp [Dm.noMem] at hp
  | .keys .., u, hp, h => by simp [Dm.noMem] at hp
  | .bsl .., u, hp, h => by simp [Dm.noMem] at hp
  | .mp .., u, hp, h => by simp [Dm.noMem] at hp
  | .lrec .., u, hp, h => by simp [Dm.noMem] at hp
  | .typ .., u, hp, h => by simp only [Rep]
  | .yl .., u, hp, h => by simp [Dm.noMem] at hp
  | .ifn, u, hp, h => by simpa only [Rep] using h
  | .clo fn first cap, u, hp, h => by
    simp only [Dm.noMem, Bool.and_eq_true] at hp
    simp only [Rep] at h ⊢
    obtain ⟨vs, us, h1, h2, h3⟩ := h
    exact ⟨vs, us, h1, RepL.noMem first vs hp.1 h2, RepL.noMem cap us hp.2 h3⟩
theorem RepL.noMem {M M' : Nat → Prop} {w w' : World} {x x' : Cx} : ∀ (ds : List D) (vs : List Value), noMemL ds = true → RepL M w x ds vs → RepL M' w' x' ds vs
  | [], vs, _, h => by simpa only [RepL] using h
  | d :: ds, vs, hp, h => by
    simp only [noMemL, Bool.and_eq_true] at hp
    simp only [RepL] at h ⊢
    obtain ⟨u, us, h1, h2, h3⟩ := h
    exact ⟨u, us, h1, Rep.noMem d u hp.1 h2, RepL.noMem ds us hp.2 h3⟩
end

/-- One datum may stand for another. -/
def Le (d d' : D) : Prop := ∀ M w G v, (∀ b, M b → b < w.heap.size) → Rep M w G d v → Rep M w G d' v
theorem Le.refl (d : D) : Le d d := fun _ _ _ _ _ h => h
theorem Le.of_eq {d d' : D} (h : d = d') : Le d d' := h ▸ Le.refl d
theorem Le.any (d : D) : Le d .any := fun _ _ _ _ _ _ => by simp only [Rep]
theorem Le.trans {a b c : D} (h : Le a b) (k : Le b c) : Le a c := fun M w G v hM h1 => k M w G v hM (h M w G v hM h1)
theorem Le.nil (full : Bool) (n : Nat) : Le (.flat (.slice none 0 0)) (.sl full n 0 []) := fun M w G v _ h => by
  simp only [Rep] at h ⊢
  exact ⟨none, 0, h, Nat.le_refl _, fun _ => rfl, by simp, by omega, .inl (by simp)⟩
theorem Le.full {n len : Nat} {cs : List D} : Le (.sl true n len cs) (.sl false n len cs) := fun M w G v _ h => by
  simp only [Rep] at h ⊢
  obtain ⟨a, cap, h1, h2, h3, h4⟩ := h
  exact ⟨a, cap, h1, h2, fun e => (by cases e), h4⟩
def LeL : List D → List D → Prop
  | [], [] => True
  | d :: ds, e :: es => Le d e ∧ LeL ds es
  | _, _ => False
theorem LeL.refl : ∀ ds, LeL ds ds
  | [] => trivial
  | d :: ds => ⟨Le.refl d, LeL.refl ds⟩
theorem LeL.rep {M : Nat → Prop} {w : World} {G : Cx} (hM : ∀ b, M b → b < w.heap.size) : ∀ {ds es : List D} {vs : List Value}, LeL ds es → RepL M w G ds vs → RepL M w G es vs
  | [], [], vs, _, h => h
  | d :: ds, e :: es, vs, hl, h => by
    simp only [RepL] at h ⊢
    obtain ⟨u, us, h1, h2, h3⟩ := h
    exact ⟨u, us, h1, hl.1 _ _ _ _ hM h2, LeL.rep hM hl.2 h3⟩
  | [], _ :: _, _, h, _ => h.elim
  | _ :: _, [], _, h, _ => h.elim
theorem Le.agg {cs cs' : List D} (h : LeL cs cs') : Le (.agg cs) (.agg cs') := fun M w G v hM h1 => by
  simp only [Rep] at h1 ⊢
  obtain ⟨vs, q1, q2⟩ := h1
  exact ⟨vs, q1, LeL.rep hM h q2⟩
theorem Le.tup {cs cs' : List D} (h : LeL cs cs') : Le (.tup cs) (.tup cs') := fun M w G v hM h1 => by
  simp only [Rep] at h1 ⊢
  obtain ⟨vs, q1, q2⟩ := h1
  exact ⟨vs, q1, LeL.rep hM h q2⟩

/-! ### what leaves the call, or goes into another -/
/-- The blocks that stay shut when the boxes and rows V are looked into. -/
def Mv (M0 : Nat → Prop) (g : Gh) (σ : Sg) (V : List Nat) (b : Nat) : Prop := M0 b ∨ ∃ id, id ∉ V ∧ blkOf g σ id = some b
def Vw (pe : Sg) (d d' : D) : Prop := ∀ (w0 : World) (M0 : Nat → Prop) (B0 : Bd) (N : Nat) (g : Gh) (s : DS) (a : Act) (w : World), StG w0 M0 B0 N g s a w → Ens s.σ pe → ∀ v, Rep (Mx M0 g s.σ) w (some (g, s.σ)) d v → Rep (Mv M0 g s.σ (keys pe)) w none d' v
def VwL (pe : Sg) : List D → List D → Prop
  | [], [] => True
  | d :: ds, e :: es => Vw pe d e ∧ VwL pe ds es
  | _, _ => False
theorem Mv.sub {M0 : Nat → Prop} {g : Gh} {σ : Sg} {V : List Nat} {b : Nat} (h : Mv M0 g σ V b) : Mx M0 g σ b := by
  rcases h with h | ⟨id, _, h⟩
  · exact .inl h
  · exact .inr ⟨id, h⟩
theorem Vw.pers {pe : Sg} {d : D} (h : Dm.pers d = true) : Vw pe d d := fun w0 M0 B0 N g s a w hs _ v hv => (hv.down d v h).mono fun b _ h => h.sub
theorem Vw.le {pe : Sg} {d d1 d2 : D} (h : Vw pe d d1) (hl : Le d1 d2) : Vw pe d d2 := fun w0 M0 B0 N g s a w hs he v hv =>
  hl _ _ _ _ (fun b hb => hs.mlt b hb.sub) (h w0 M0 B0 N g s a w hs he v hv)
theorem VwL.rep {pe : Sg} {w0 : World} {M0 : Nat → Prop} {B0 : Bd} {N : Nat} {g : Gh} {s : DS} {a : Act} {w : World} (hs : StG w0 M0 B0 N g s a w) (he : Ens s.σ pe) : ∀ {ds es : List D} {vs : List Value}, VwL pe ds es → RepL (Mx M0 g s.σ) w (some (g, s.σ)) ds vs → RepL (Mv M0 g s.σ (keys pe)) w none es vs
  | [], [], vs, _, h => by simpa only [RepL] using h
  | d :: ds, e :: es, vs, hl, h => by
    simp only [RepL] at h ⊢
    obtain ⟨u, us, h1, h2, h3⟩ := h
    exact ⟨u, us, h1, hl.1 _ _ _ _ _ _ _ _ hs he _ h2, VwL.rep hs he hl.2 h3⟩
  | [], _ :: _, _, h, _ => h.elim
  | _ :: _, [], _, h, _ => h.elim
theorem VwL.pers {pe : Sg} : ∀ {ds : List D}, persL ds = true → VwL pe ds ds
  | [], _ => trivial
  | d :: ds, h => by
    simp only [persL, Bool.and_eq_true] at h
    exact ⟨Vw.pers h.1, VwL.pers h.2⟩
theorem Vw.agg {pe : Sg} {cs cs' : List D} (h : VwL pe cs cs') : Vw pe (.agg cs) (.agg cs') := fun w0 M0 B0 N g s a w hs he v hv => by
  simp only [Rep] at hv ⊢
  obtain ⟨vs, q1, q2⟩ := hv
  exact ⟨vs, q1, VwL.rep hs he h q2⟩
theorem Vw.tup {pe : Sg} {cs cs' : List D} (h : VwL pe cs cs') : Vw pe (.tup cs) (.tup cs') := fun w0 M0 B0 N g s a w hs he v hv => by
  simp only [Rep] at hv ⊢
  obtain ⟨vs, q1, q2⟩ := hv
  exact ⟨vs, q1, VwL.rep hs he h q2⟩
theorem Vw.clo {pe : Sg} {fn : Fn} {cs cs' es es' : List D} (h : VwL pe cs cs') (h2 : VwL pe es es') : Vw pe (.clo fn cs es) (.clo fn cs' es') := fun w0 M0 B0 N g s a w hs he v hv => by
  simp only [Rep] at hv ⊢
  obtain ⟨vs, us, q1, q2, q3⟩ := hv
  exact ⟨vs, us, q1, VwL.rep hs he h q2, VwL.rep hs he h2 q3⟩
theorem own_cells {w : World} {e n len : Nat} {v : Value} {vs : List Value} (h : OwnR w e n v len vs) : (v = .slice none 0 0 ∧ len = 0) ∨ ∃ g cap, v = .slice (some ⟨g, 0, none⟩) len cap ∧ len ≤ cap ∧ cap ≤ maxLen ∧ ∀ (i : Nat) u, vs[i]? = some u → w.cell? ⟨g, i, none⟩ = some u := by
  rcases h.2 with h1 | ⟨g, cap, cur, fz, rfl, hg, hb, h1, h2, h3, h4⟩
  · exact .inl h1
  · refine .inr ⟨g, cap, rfl, h1, h2, fun i u hu => ?_⟩
    have hi := (List.getElem?_eq_some_iff.1 hu).1
    have h5 : (cur.toList.take (len * n))[i]? = some u := by rw [h4]; exact hu
    rw [List.getElem?_take, if_pos (by rw [← h.1]; exact hi)] at h5
    simp only [World.cell?, hg]
    simpa using h5
theorem Vw.own {pe : Sg} {id L n : Nat} {e : TypeId} {cs cs' : List D} (hm : (id, some (.row e n L cs)) ∈ pe) (hp : VwL pe cs cs') : Vw pe (.own id L) (.sl false n L cs') := fun w0 M0 B0 N g s a w hs he v hv => by
  have hσ := he.mem _ hm
  simp only [Rep] at hv
  obtain ⟨g', σ', hG, h1, _⟩ := hv
  cases hG
  simp only at hσ
  have hv := (row_at hσ h1).2 rfl
  obtain ⟨vs, o1, o2⟩ := hs.ent id _ hσ
  have o3 := VwL.rep hs he hp o2
  have hl := o1.1
  rw [← o3.length] at hl
  simp only [Rep]
  rcases own_cells o1 with ⟨q1, q2⟩ | ⟨b, cap, q1, q2, q3, q4⟩
  · subst q2
    exact ⟨none, 0, by rw [hv, q1], Nat.le_refl _, fun e => (by cases e), hl, by omega, .inl (by simp)⟩
  · refine ⟨_, cap, by rw [hv, q1], q2, fun e => (by cases e), hl, by unfold maxLen at q3; omega, ?_⟩
    refine .inr ⟨b, 0, rfl, ?_, RepC.of fun i d hd => ?_⟩
    · have hb : blkOf g s.σ id = some b := by unfold blkOf; rw [hσ]; simp only [q1]; rfl
      rintro (hq | ⟨id', hq1, hq2⟩)
      · exact (hs.new id b hb).2.2 hq
      · have := hs.sep id id' b hb hq2
        subst this
        exact hq1 (keys_mem hm)
    · obtain ⟨u, hu, hr⟩ := o3.get i hd
      exact ⟨u, by rw [Nat.zero_add]; exact q4 i u hu, hr⟩
theorem Vw.ref {pe : Sg} {id off : Nat} {cs cs' : List D} (hm : (id, some (.box cs)) ∈ pe) (hp : VwL pe cs cs') (hne : cs' ≠ []) (hk : keysOf cs = none := by first | rfl | assumption) : Vw pe (.ref id off) (.ptr cs' off) := fun w0 M0 B0 N g s a w hs he v hv => by
  have hσ := he.mem _ hm
  simp only [Rep] at hv ⊢
  obtain ⟨g', σ', cs0, hG, h1, h2⟩ := hv
  cases hG
  simp only at hσ
  obtain ⟨vs, T, o1, o2, o4⟩ := hs.ent id _ hσ
  obtain ⟨T, rfl⟩ := o4.cells hk
  have o3 := VwL.rep hs he hp o2
  have hb : blkOf g s.σ id = some (g.blk id) := by unfold blkOf; rw [hσ]
  refine ⟨g.blk id, 0, by rw [h2, Nat.zero_add], hne, ?_, RepC.of fun i d hd => ?_⟩
  · rintro (hq | ⟨id', hq1, hq2⟩)
    · exact (hs.new id _ hb).2.2 hq
    · have := hs.sep id id' _ hb hq2
      subst this
      exact hq1 (keys_mem hm)
  · obtain ⟨u, hu, hr⟩ := o3.get i hd
    exact ⟨u, by simp only [World.cell?, o1, Nat.zero_add]; simpa using hu, hr⟩

/-! ### what loops over functions have gathered is given back -/
mutual
theorem Rep.cells {M : Nat → Prop} {w w' : World} {x : Cx} (hc : ∀ b off u, w.cell? ⟨b, off, none⟩ = some u → w'.cell? ⟨b, off, none⟩ = some u) : ∀ (d : D) (v : Value), Rep M w x d v → Rep M w' x d v
  | .any, _, _ => by simp only [Rep]
  | .flat v, u, h => by simpa only [Rep] using h
  | .agg cs, u, h => by
    simp only [Rep] at h ⊢
    obtain ⟨vs, h1, h2⟩ := h
    exact ⟨vs, h1, RepL.cells hc cs vs h2⟩
  | .tup cs, u, h => by
    simp only [Rep] at h ⊢
    obtain ⟨vs, h1, h2⟩ := h
    exact ⟨vs, h1, RepL.cells hc cs vs h2⟩
  | .sl full n len cs, u, h => by
    simp only [Rep] at h ⊢
    obtain ⟨a, cap, h1, h2, h3, h4, h5, h6⟩ := h
    refine ⟨a, cap, h1, h2, h3, h4, h5, ?_⟩
    rcases h6 with h6 | ⟨b, off, h7, h8, h9⟩
    · exact .inl h6
    · exact .inr ⟨b, off, h7, h8, RepC.cells hc b off cs h9⟩
  | .ptr cs off, u, h => by
    simp only [Rep] at h ⊢
    obtain ⟨b, o, h1, h2, h3, h4⟩ := h
    exact ⟨b, o, h1, h2, h3, RepC.cells hc b o cs h4⟩
  | .own .., u, h => by simpa only [Rep] using h
  | .ref .., u, h => by simpa only [Rep] using h
  | .elp .., u, h => by simpa only [Rep] using h
  | .keys .., u, h => by simp only [Rep]
  | .lrec .., u, h => by simp only [Rep]
  | .typ .., u, h => by simp only [Rep]
  | .yl .., u, h => by simpa only [Rep] using h
  | .bsl .., u, h => by simpa only [Rep] using h
  | .mp .., u, h => by simpa only [Rep] using h
  | .ifn, u, h => by simpa only [Rep] using h
  | .clo fn first cap, u, h => by
    simp only [Rep] at h ⊢
    obtain ⟨vs, us, h1, h2, h3⟩ := h
    exact ⟨vs, us, h1, RepL.cells hc first vs h2, RepL.cells hc cap us h3⟩
theorem RepL.cells {M : Nat → Prop} {w w' : World} {x : Cx} (hc : ∀ b off u, w.cell? ⟨b, off, none⟩ = some u → w'.cell? ⟨b, off, none⟩ = some u) : ∀ (ds : List D) (vs : List Value), RepL M w x ds vs → RepL M w' x ds vs
  | [], vs, h => by simpa only [RepL] using h
  | d :: ds, vs, h => by
    simp only [RepL] at h ⊢
    obtain ⟨u, us, h1, h2, h3⟩ := h
    exact ⟨u, us, h1, Rep.cells hc d u h2, RepL.cells hc ds us h3⟩
theorem RepC.cells {M : Nat → Prop} {w w' : World} (hc : ∀ b off u, w.cell? ⟨b, off, none⟩ = some u → w'.cell? ⟨b, off, none⟩ = some u) (b : Nat) : ∀ (off : Nat) (ds : List D), RepC M w b off ds → RepC M w' b off ds
  | off, [], h => by simp only [RepC]
  | off, d :: ds, h => by
    simp only [RepC] at h ⊢
    obtain ⟨⟨u, h1, h2⟩, h3⟩ := h
    exact ⟨⟨u, hc _ _ _ h1, Rep.cells hc d u h2⟩, RepC.cells hc b (off + 1) ds h3⟩
end
theorem cells_put {w : World} {D : Nat} {o o' : Obj} (h : w.heap[D]? = some o) (hn : o.isCells = false) : ∀ b off u, w.cell? ⟨b, off, none⟩ = some u → (w.putObj D o').cell? ⟨b, off, none⟩ = some u := by
  intro b off u hu
  by_cases e : b = D
  · subst e
    unfold World.cell? at hu
    rw [h] at hu
    cases o <;> first | (cases hu; done) | (simp [Obj.isCells] at hn; done)
  · unfold World.cell? at hu ⊢
    simp only [World.putObj_heap_other e]
    exact hu
theorem mut_put {w : World} {D : Nat} {o : Obj} : Mut (fun b => b = D) w (w.putObj D o) := ⟨rfl, rfl, rfl, by simp [World.putObj], fun k _ hk => World.putObj_heap_other hk⟩
/-- What is no cells and none of the call's own may turn. -/
theorem StG.turn {w0 : World} {M0 : Nat → Prop} {B0 : Bd} {N : Nat} {g : Gh} {s : DS} {a : Act} {w : World} (h : StG w0 M0 B0 N g s a w) {D : Nat} {o o' : Obj} (hD : w.heap[D]? = some o) (hn : o.isCells = false) (h0 : w0.heap.size ≤ D) (hb : ∀ id, blkOf g s.σ id ≠ some D) {a' : Act} (ha : a'.tmps = a.tmps)
    (hd : Dfs w0.heap.size g s.σ a' (w.putObj D o')) : StG w0 M0 B0 N g s a' (w.putObj D o') := by
  have hc := cells_put (o' := o') hD hn
  refine ⟨h.chg.trans' mut_put (fun b hlt e => absurd hlt (by omega)), h.m0, hd, by rw [ha]; exact h.sz, fun t => by rw [ha]; exact (h.tm t).cells hc, fun id e he => ?_, h.sep, fun id b hb' => ?_, h.anc, h.glo⟩
  · have := h.ent id e he
    cases e with
    | box cs =>
      obtain ⟨vs, T, h1, h2, h3⟩ := this
      have hbk : blkOf g s.σ id = some (g.blk id) := by unfold blkOf; rw [he]
      exact ⟨vs, T, mut_put.heap h1 (fun e => hb id (by rw [hbk, e])), RepL.cells hc cs vs h2, h3⟩
    | row e n len cs =>
      obtain ⟨vs, h1, h2⟩ := this
      exact ⟨vs, h1.mut mut_put (fun k hk e => hb id (by unfold blkOf; rw [he]; simp only; rw [hk, e])), RepL.cells hc cs vs h2⟩
    | dead => trivial
  · have := h.new id b hb'
    exact ⟨by simpa [World.putObj] using this.1, this.2⟩
/-- The call leaves: what its loops have gathered is given back, then the results are read. -/
theorem StG.leave {P : Program} {fn : Func} {w0 : World} {M0 : Nat → Prop} {B0 : Bd} {N : Nat} {g : Gh} {s : DS} {R : Ending → World → Prop} : ∀ (Ds : List Nat) {a : Act} {w : World}, StG w0 M0 B0 N g s a w → a.defers = Ds.map (fun D => { target := .collected D, args := #[] }) → Ds.Nodup →
    (∀ D ∈ Ds, (w.heap[D]? = some (.deferred (some [])) ∧ w0.heap.size ≤ D) ∧ ∀ id, blkOf g s.σ id ≠ some D) →
    (∀ a' w', StG w0 M0 B0 N g s a' w' → a'.tmps = a.tmps → w.heap.size ≤ w'.heap.size → Mut (fun b => b ∈ Ds) w w' → ∃ v, (results fn a'.tmps).run P w' = .ok v w' ∧ R (.returned v) w') → LeavesInM (FW none) 0 P fn a.tmps R a.defers .returning w
  | [], a, w, h, hd, _, _, hk => by
    rw [hd]
    obtain ⟨v, h1, h2⟩ := hk a w h rfl (Nat.le_refl _) (Mut.refl _ w)
    exact ⟨v, h1, h2⟩
  | D :: Ds, a, w, h, hd, hnd, hall, hk => by
    rw [hd]
    obtain ⟨⟨h1, h0⟩, h2⟩ := hall D (List.mem_cons_self ..)
    have hnd' := List.nodup_cons.1 hnd
    refine ⟨by simp, .inl ⟨D, _, rfl, run_takeDeferred h1, ?_⟩⟩
    have hall' : ∀ D' ∈ Ds, ((w.putObj D (.deferred none)).heap[D']? = some (.deferred (some [])) ∧ w0.heap.size ≤ D') ∧ ∀ id, blkOf g s.σ id ≠ some D' := fun D' hD' => by
      obtain ⟨⟨q1, q2⟩, q3⟩ := hall D' (List.mem_cons_of_mem _ hD')
      exact ⟨⟨by rw [World.putObj_heap_other (fun e => hnd'.1 (by rw [← e]; exact hD'))]; exact q1, q2⟩, q3⟩
    have hs := h.turn (o' := .deferred none) (a' := { a with defers := Ds.map (fun D => { target := .collected D, args := #[] }) }) h1 rfl h0 h2 rfl ⟨Ds, rfl, hnd'.2, hall'⟩
    exact StG.leave Ds hs rfl hnd'.2 hall' (fun a' w' q1 q2 q3 q4 => hk a' w' q1 q2 (by simpa [World.putObj] using q3) (((mut_put (D := D) (o := .deferred none)).mono (fun b _ e => by rw [e]; exact List.mem_cons_self ..)).trans (q4.mono (fun b _ hb => List.mem_cons_of_mem _ hb))))

end
/-! ### functions -/
/-- Called with values that stand for these data the function returns this datum, and nothing that was there has changed. -/
structure DFun (P : Program) (k : FuncId) (args : List D) (d : D) : Prop where
  intro ::
  go : ∀ (M : Nat → Prop) (w : World) (vals : List Value), (∀ b, M b → b < w.heap.size) → RepL M w none args vals → GlW w → Calls P k vals.toArray w (fun e w' => ∃ v, e = .returned v ∧ Rep M w' none d v ∧ Fix w w')

theorem DFun.le {P : Program} {k : FuncId} {args args' : List D} {d d' : D} (h : DFun P k args d) (ha : LeL args' args) (hd : Le d d') : DFun P k args' d' := .intro fun M w vals hM hv hgl =>
  (h.go M w vals hM (LeL.rep hM ha hv) hgl).mono fun e w' ⟨v, h1, h2, h3⟩ => ⟨v, h1, hd _ _ _ _ (fun b hb => Nat.lt_of_lt_of_le (hM b hb) h3.size) h2, h3⟩

def argF : Nat → List D → Fr
  | _, [] => []
  | i, d :: ds => (i, d) :: argF (i + 1) ds
theorem argF_at : ∀ (ds : List D) (i t : Nat), lkF (argF i ds) t = if t < i then .any else (ds[t - i]?).getD .any
  | [], i, t => by simp [argF, lkF]
  | d :: ds, i, t => by
    rw [argF, lkF_cons, argF_at ds (i + 1) t]
    by_cases h : i = t
    · subst h; simp
    · rw [if_neg h]
      by_cases h2 : t < i
      · rw [if_pos h2, if_pos (by omega)]
      · rw [if_neg h2, if_neg (by omega)]
        rw [show t - i = (t - (i + 1)) + 1 by omega]; simp

/-- What the results give. -/
def ResOk (P : Program) (fn : Func) (s : DS) (d : D) : Prop :=
  ∀ (w0 : World) (M0 : Nat → Prop) (B0 : Bd) (N : Nat) (g : Gh) (a : Act) (w : World), StG w0 M0 B0 N g s a w → ∃ v, (results fn a.tmps).run P w = .ok v w ∧ Rep M0 w none d v
theorem DFun.enter {P : Program} {k : FuncId} {fn : Func} {c : Code} {args : List D} {d : D} {N : Nat} (hf : P.funcs[k]? = some fn) (hb : fn.body = some c) (hn : fn.ntmps = N) (hlt : N < 512) (hN : args.length ≤ N)
    (h : DW P N c ⟨argF 0 args, []⟩ (fun e s => (e = .normal ∨ e = .ret) ∧ ResOk P fn s d)) : DFun P k args d := by
  subst hn
  refine ⟨?_⟩
  intro M w vals hM hv hgl
  have hl := hv.length
  refine (callsFW (r := none) (n := 0)).1 (callsIn_of_wp_marks hf hb trivial ?_)
  have hst : StG w M Bd.none fn.ntmps ⟨fun _ => 0, fun _ => undef⟩ ⟨argF 0 args, []⟩ { tmps := vals.toArray ++ Array.replicate (fn.ntmps - vals.toArray.size) undef, defers := [] } w := by
    refine ⟨Mut.refl _ w, hM, Dfs.nil rfl, by rw [Nat.mod_eq_of_lt hlt]; simp; omega, fun t => ?_, fun id e he => by simp [lkE] at he, fun id id' b h => by simp [blkOf, lkE] at h, fun id b h => (by simp [blkOf, lkE] at h), Anc.nil, ⟨hgl, fun _ _ h => h⟩⟩
    rw [argF_at]
    simp only [Nat.not_lt_zero, if_false, Nat.sub_zero]
    cases hd : args[t]? with
    | none => simp only [Option.getD_none, Rep]
    | some d =>
      obtain ⟨u, hu, hr⟩ := hv.get t hd
      have ht := (List.getElem?_eq_some_iff.1 hu).1
      have : (vals.toArray ++ Array.replicate (fn.ntmps - vals.toArray.size) undef).getD t undef = u := by
        rw [Array.getD_eq_getD_getElem?, Array.getElem?_append_left (by simpa using ht)]
        simp [hu]
      rw [this]
      exact (hr.up).mono fun b _ hb => by
        rcases hb with hb | ⟨id, hb⟩
        · exact hb
        · simp [blkOf, lkE] at hb
  refine wpIn_mono (h.go w M Bd.none _ w ⟨_, hst⟩) fun e a' w' ⟨s', ⟨q1, q2⟩, ⟨g, q3⟩⟩ => ?_
  obtain ⟨Ds, k1, k2, k3⟩ := q3.df
  have := StG.leave (P := P) (fn := fn) (R := fun e w' => ∃ v, e = .returned v ∧ Rep M w' none d v ∧ Fix w w') Ds q3 k1 k2 k3 (fun a2 w2 p1 p2 p3 p4 => by
    obtain ⟨v, r1, r2⟩ := q2 _ _ _ _ _ _ _ p1
    exact ⟨v, r1, v, rfl, r2, p1.chg⟩)
  rcases q1 with rfl | rfl
  · exact this
  · exact this
end Go.Dm
