/- A machine over data: rows of the call's own appended to one another. No condition. -/
import Derived.Test.YtohjapcafkhabaaDoorXM
import Derived.Lib.ConvBytes
import Derived.Laws.IdiomStrings
import Derived.Laws.StructEq
import Derived.Laws.Pointers
import Derived.Maps.Own
import Derived.Maps.RangeRun

set_option linter.unusedSimpArgs false
set_option linter.unusedVariables false
set_option linter.unusedSectionVars false
set_option maxHeartbeats 400000
namespace Go.Dm
open Go Go.RowKit Go.PP
variable [GlobW] [Rnd]

section
variable {P : Program} {N : Nat} {dst : Option Tmp} {ty : TypeId} {pos : String} {af : Array Edge} {gd : Option (Nat × Bool)}
theorem T.appendOO {id id2 e n L m bytes : Nat} {z : Value} {cs ds : List D} (t : TypeId) (x y : Operand) (ht : P.underlying t = some (.slice e)) (hinfo : (P.info? e).map (fun i => (i.zero, i.size, i.bytes)) = some (some z, n, bytes)) (hzs : z.cells.size = n) (hsz : 0 < n) (hbp : 0 < bytes)
    (ho : oneL ds = true) (hby : (L + m) * bytes ≤ 140737488355328) :
    Tri P N ⟨dst, .call { callee := .builtin .append, args := #[x, y], argTypes := #[t, t] }, ty, pos, af, gd⟩ [(x, .own id L), (y, .own id2 m)] [(id, some (.row e n L cs)), (id2, some (.row e n m ds))] (.own id (L + m)) [(id, some (.row e n (L + m) (cs ++ ds)))] := by
  refine ⟨?_⟩
  intro w0 M0 B0 s a w next Q h1 h2 hd ⟨g, hs⟩ hk
  have he := h2.1
  have hvx := hs.eval x
  have hvy := hs.eval y
  rw [show evalD s.f x = .own id L from h1.1] at hvx
  rw [show evalD s.f y = .own id2 m from h1.2.1] at hvy
  obtain ⟨hu, vs, o1, o2⟩ := own_row hs he hvx
  obtain ⟨hu2, news, n0, n1⟩ := own_row hs h2.2.1 hvy
  obtain ⟨ad, c, r1, r4, n2, n3⟩ : ∃ ad c, a.eval y = .slice ad m c ∧ ds.length = m * n ∧ (ad = none → news = []) ∧ ∀ a, ad = some a → ∀ j u, news[j]? = some u → w.cell? (a.add j) = some u := by
    have hl := n0.1
    rcases own_cells n0 with ⟨q1, q2⟩ | ⟨b, cap, q1, q2, q3, q4⟩
    · subst q2
      exact ⟨none, 0, q1, by rw [n1.length, hl], fun _ => List.eq_nil_of_length_eq_zero (by simpa using hl), fun a h => by cases h⟩
    · exact ⟨_, cap, q1, by rw [n1.length, hl], fun h => (by cases h), fun a ha j u hj => by cases ha; rw [add_off, Nat.zero_add]; exact q4 j u hj⟩
  have hln : news.length = m * n := by rw [← n1.length]; exact r4
  obtain ⟨v', w', hr, p2, p3, p4, p5⟩ := run_appendR (P := P) t t ty e ht hinfo hzs hsz _ L vs o1 _ m news (Src.sl (c := c) ht hln n2 n3) hln (RepL.one ho n1) hby hbp
  refine opIn_val (run_app rfl r1 hr) ?_
  rw [hu] at p3 p4 p5
  exact hk _ _ (hs.grown he o2 n1 p2 p3 p4 p5 hd)
/-- A row of the call's own that is not empty is not nil. -/
theorem own_ne_nil {w0 : World} {M0 : Nat → Prop} {B0 : Bd} {g : Gh} {s : DS} {a : Act} {w : World} (hs : StG w0 M0 B0 N g s a w) {id e n L : Nat} {cs : List D} (he : lkE s.σ id = some (.row e n L cs)) {u : Value} (hu : Rep (Mx M0 g s.σ) w (some (g, s.σ)) (.own id L) u) (hl : 0 < L) : ∃ ad c, u = .slice (some ad) L c := by
  obtain ⟨_, vs, o1, _⟩ := own_row hs he hu
  rcases own_cells o1 with ⟨_, q2⟩ | ⟨b, cap, q1, _⟩
  · omega
  · exact ⟨_, _, q1⟩
theorem T.eqNilO {t e ty' id L e2 n : Nat} {cs : List D} (x : Operand) (ht : P.underlying t = some (.slice e)) (hl : 0 < L) :
    Tri P N ⟨dst, .binOp .eql t x (.const (.slice none 0 0)) ty', ty, pos, af, gd⟩ [(x, .own id L), (.const (.slice none 0 0), .flat (.slice none 0 0))] [(id, some (.row e2 n L cs))] (.flat (.bool false)) [] := Tri.read fun w0 M0 B0 g s a w hs he hv => by
  obtain ⟨ad, c, r1⟩ := own_ne_nil hs he.1 hv.1 hl
  exact ⟨_, w, run_eqNil w a.eval r1 hv.2.one ht ty', Mut.refl _ w, by simp only [Rep]; rfl⟩
theorem T.neqNilO {t e ty' id L e2 n : Nat} {cs : List D} (x : Operand) (ht : P.underlying t = some (.slice e)) (hl : 0 < L) :
    Tri P N ⟨dst, .binOp .neq t x (.const (.slice none 0 0)) ty', ty, pos, af, gd⟩ [(x, .own id L), (.const (.slice none 0 0), .flat (.slice none 0 0))] [(id, some (.row e2 n L cs))] (.flat (.bool true)) [] := Tri.read fun w0 M0 B0 g s a w hs he hv => by
  obtain ⟨ad, c, r1⟩ := own_ne_nil hs he.1 hv.1 hl
  exact ⟨_, w, run_neqNil w a.eval r1 hv.2.one ht ty', Mut.refl _ w, by simp only [Rep]; rfl⟩
/-- An empty row in a slot: nil or not. -/
theorem DW.flattenO {Q : Exit → DS → Prop} {c : Code} {f : Fr} {σ : Sg} (t : Nat) {id : Nat} (ht : lkF f t = .own id 0) (h : ∀ a cap, DW P N c ⟨(t, .flat (.slice a 0 cap)) :: f, σ⟩ Q) : DW P N c ⟨f, σ⟩ Q := by
  refine ⟨fun w0 M0 B0 a w ⟨g, hs⟩ => ?_⟩
  have h1 := hs.tm t
  rw [ht] at h1
  simp only [Rep] at h1
  obtain ⟨_, _, _, _, ad, cap, r1⟩ := h1
  exact (h ad cap).go w0 M0 B0 a w ⟨g, StG.setF hs t _ (by simp only [Rep]; exact r1)⟩
end
theorem RepC.le {M : Nat → Prop} {w : World} {b : Nat} (hM : ∀ b, M b → b < w.heap.size) : ∀ {cs cs' : List D} {off : Nat}, LeL cs cs' → RepC M w b off cs → RepC M w b off cs'
  | [], [], _, _, _ => by simp only [RepC]
  | d :: ds, e :: es, off, hl, h => by
    simp only [RepC] at h ⊢
    obtain ⟨⟨u, h1, h2⟩, h3⟩ := h
    exact ⟨⟨u, h1, hl.1 _ _ _ _ hM h2⟩, RepC.le hM hl.2 h3⟩
  | [], _ :: _, _, h, _ => h.elim
  | _ :: _, [], _, h, _ => h.elim
theorem LeL.length : ∀ {cs cs' : List D}, LeL cs cs' → cs.length = cs'.length
  | [], [], _ => rfl
  | _ :: _, _ :: _, h => by simp [LeL.length h.2]
  | [], _ :: _, h => h.elim
  | _ :: _, [], h => h.elim
theorem Le.slc {full : Bool} {n len : Nat} {cs cs' : List D} (h : LeL cs cs') : Le (.sl full n len cs) (.sl full n len cs') := fun M w G v hM h1 => by
  simp only [Rep] at h1 ⊢
  obtain ⟨a, cap, q1, q2, q3, q4, q5, q6⟩ := h1
  refine ⟨a, cap, q1, q2, q3, by rw [← h.length]; exact q4, q5, ?_⟩
  rcases q6 with q6 | ⟨b, off, r1, r2, r3⟩
  · exact .inl q6
  · exact .inr ⟨b, off, r1, r2, RepC.le hM h r3⟩
theorem LeL.append : ∀ {a b c d : List D}, LeL a b → LeL c d → LeL (a ++ c) (b ++ d)
  | [], [], _, _, _, h => h
  | _ :: _, _ :: _, _, _, h, h2 => ⟨h.1, LeL.append h.2 h2⟩
  | [], _ :: _, _, _, h, _ => h.elim
  | _ :: _, [], _, _, h, _ => h.elim
theorem leL_flat {α : Type} {f g : α → List D} (h : ∀ x, LeL (f x) (g x)) : ∀ l : List α, LeL (l.flatMap f) (l.flatMap g)
  | [] => trivial
  | x :: l => by rw [List.flatMap_cons, List.flatMap_cons]; exact (h x).append (leL_flat h l)
theorem persL_flat {α : Type} {f : α → List D} (h : ∀ x, persL (f x) = true) : ∀ l : List α, persL (l.flatMap f) = true
  | [] => rfl
  | x :: l => by rw [List.flatMap_cons]; exact persL_append (h x) (persL_flat h l)
theorem leL_map {α : Type} {f g : α → D} (h : ∀ x, Le (f x) (g x)) : ∀ l : List α, LeL (l.map f) (l.map g)
  | [] => trivial
  | x :: l => ⟨h x, leL_map h l⟩
end Go.Dm

set_option linter.unusedSimpArgs false
set_option linter.unusedVariables false
set_option linter.unusedSectionVars false
set_option maxHeartbeats 400000
namespace Go.Dm
open Go Go.RowKit Go.PP
variable [GlobW] [Rnd]

theorem bsz (l : List UInt8) : (⟨l.toArray⟩ : ByteArray).size = l.length := by show l.toArray.size = _; simp
theorem bytes_inj {a b : ByteArray} (h : a.data.toList = b.data.toList) : a = b := by
  cases a; cases b
  congr 1
  exact Array.toList_inj.1 h
/-- A string's datum, and the cells of bytes. -/
abbrev strV (l : List UInt8) : Value := .string ⟨l.toArray⟩
def bD (l : List UInt8) : List D := l.map fun c => .flat (.int .u8 c.toNat)
theorem bD_append (a b : List UInt8) : bD (a ++ b) = bD a ++ bD b := List.map_append
theorem bD_len (a : List UInt8) : (bD a).length = a.length := List.length_map ..
theorem bD_pers (a : List UInt8) : persL (bD a) = true := by unfold bD; exact persL_map (fun _ => rfl) a
theorem bD_one (a : List UInt8) : oneL (bD a) = true := by unfold bD; exact oneL_map (fun _ => rfl) a
theorem bD_rep {M : Nat → Prop} {w : World} {G : Cx} : ∀ {l : List UInt8} {vs : List Value}, RepL M w G (bD l) vs → vs = l.map fun c => .int .u8 c.toNat
  | [], vs, h => by simp only [bD, List.map_nil, RepL] at h; simpa using h
  | c :: l, vs, h => by
    simp only [bD, List.map_cons, RepL, Rep] at h
    obtain ⟨u, us, rfl, rfl, h3⟩ := h
    rw [List.map_cons, bD_rep (l := l) h3]
theorem bD_mk {M : Nat → Prop} {w : World} {G : Cx} : ∀ (l : List UInt8), RepL M w G (bD l) (l.map fun c => .int .u8 c.toNat)
  | [] => by simp [bD, RepL]
  | c :: l => by simp only [bD, List.map_cons, RepL, Rep]; exact ⟨_, _, rfl, rfl, bD_mk l⟩

section
variable {P : Program} {N : Nat} {dst : Option Tmp} {ty : TypeId} {pos : String} {af : Array Edge} {gd : Option (Nat × Bool)}

/-! strings -/
theorem T.lenStr {l : List UInt8} (t : TypeId) (x : Operand) (ht : P.underlying t = some .string) :
    Tri P N ⟨dst, .call { callee := .builtin .len, args := #[x], argTypes := #[t] }, ty, pos, af, gd⟩ [(x, .flat (.string ⟨l.toArray⟩))] [] (.flat (.int .i64 l.length)) [] := Tri.val fun M w G ρ hv => by
  refine ⟨.int .i64 l.length, ?_, by simp only [Rep]⟩
  simp [execOp, resolve, invoke, builtin, Builtin.len_, Builtin.lenOf, run_underlying ht, hv.one, bsz, goInt]
theorem T.indexStr {l : List UInt8} {k : IntKind} {i : Int} {c : UInt8} (t : TypeId) (x y : Operand) (ht : P.underlying t = some .string) (h0 : 0 ≤ i) (h : l[i.toNat]? = some c) :
    Tri P N ⟨dst, .index t x y, ty, pos, af, gd⟩ [(x, .flat (.string ⟨l.toArray⟩)), (y, .flat (.int k i))] [] (.flat (.int .u8 c.toNat)) [] := Tri.val fun M w G ρ hv => by
  refine ⟨.int .u8 c.toNat, ?_, by simp only [Rep]⟩
  have hi : (⟨l.toArray⟩ : ByteArray)[i.toNat]? = some c := by
    obtain ⟨h1, h2⟩ := List.getElem?_eq_some_iff.1 h
    rw [getElem?_pos (⟨l.toArray⟩ : ByteArray) i.toNat (by rw [bsz]; exact h1)]
    simp only [Option.some.injEq]
    exact h2
  simp only [execOp, Instr.index, hv.one, hv.2.one, asIntOf, Sem.run_bind, Sem.run_pure, Result.andThen_ok, run_underlying ht, if_pos h0, hi]
theorem run_sliceStr {l : List UInt8} {t : TypeId} (w : World) (ht : P.underlying t = some .string) (lo hi : Option (IntKind × Nat)) (h1 : (lo.elim 0 (·.2)) ≤ (hi.elim l.length (·.2))) (h2 : (hi.elim l.length (·.2)) ≤ l.length) :
    (Instr.slice t (.string ⟨l.toArray⟩) (lo.map fun p => .int p.1 p.2) (hi.map fun p => .int p.1 p.2) none).run P w = .ok (.string ⟨((l.take (hi.elim l.length (·.2))).drop (lo.elim 0 (·.2))).toArray⟩) w := by
  have hx : ∀ a b : Nat, (⟨l.toArray⟩ : ByteArray).extract a b = ⟨((l.take b).drop a).toArray⟩ := fun a b => by
    apply bytes_inj
    simp [ByteArray.data_extract, List.drop_take]
  cases lo with
  | none =>
    cases hi with
    | none => simp [Instr.slice, run_underlying ht, Instr.sliceBounds, hx, bsz]
    | some q =>
      simp only [Option.elim] at h1 h2
      simp [Instr.slice, run_underlying ht, Instr.sliceBounds, Instr.sliceBound, asIntOf, hx, bsz, h2]
  | some p =>
    cases hi with
    | none =>
      simp only [Option.elim] at h1 h2
      simp [Instr.slice, run_underlying ht, Instr.sliceBounds, Instr.sliceBound, asIntOf, hx, bsz, h1]
    | some q =>
      simp only [Option.elim] at h1 h2
      simp [Instr.slice, run_underlying ht, Instr.sliceBounds, Instr.sliceBound, asIntOf, hx, bsz, h1, h2]
theorem sliceAt_str {t : TypeId} {b : ByteArray} {lo hi mx : Option Value} (w : World) (ht : P.underlying t = some .string) : (Instr.sliceAt t (.string b) lo hi mx).run P w = (Instr.slice t (.string b) lo hi mx).run P w := by
  simp [Instr.sliceAt, run_underlying ht]
theorem T.strHL {l : List UInt8} {k k2 : IntKind} {lo hi : Nat} (t : TypeId) (x y z : Operand) (ht : P.underlying t = some .string) (h1 : lo ≤ hi) (h2 : hi ≤ l.length) :
    Tri P N ⟨dst, .slice t x (some y) (some z) none, ty, pos, af, gd⟩ [(x, .flat (.string ⟨l.toArray⟩)), (y, .flat (.int k lo)), (z, .flat (.int k2 hi))] [] (.flat (.string ⟨((l.take hi).drop lo).toArray⟩)) [] := Tri.val fun M w G ρ hv => by
  refine ⟨.string ⟨((l.take hi).drop lo).toArray⟩, ?_, by simp only [Rep]⟩
  have := run_sliceStr (P := P) (l := l) w ht (some (k, lo)) (some (k2, hi)) h1 h2
  simp only [Option.map_some, Option.elim] at this
  simp only [execOp, hv.one, hv.2.one, hv.2.2.one, Option.map_some, Option.map_none, Sem.run_bind, sliceAt_str w ht, this, Result.andThen_ok, Sem.run_pure]
theorem T.strH {l : List UInt8} {k2 : IntKind} {hi : Nat} (t : TypeId) (x z : Operand) (ht : P.underlying t = some .string) (h2 : hi ≤ l.length) :
    Tri P N ⟨dst, .slice t x none (some z) none, ty, pos, af, gd⟩ [(x, .flat (.string ⟨l.toArray⟩)), (z, .flat (.int k2 hi))] [] (.flat (.string ⟨(l.take hi).toArray⟩)) [] := Tri.val fun M w G ρ hv => by
  refine ⟨.string ⟨(l.take hi).toArray⟩, ?_, by simp only [Rep]⟩
  have := run_sliceStr (P := P) (l := l) w ht none (some (k2, hi)) (Nat.zero_le _) h2
  simp only [Option.map_some, Option.map_none, Option.elim, List.drop_zero] at this
  simp only [execOp, hv.one, hv.2.one, Option.map_some, Option.map_none, Sem.run_bind, sliceAt_str w ht, this, Result.andThen_ok, Sem.run_pure]
theorem T.strL {l : List UInt8} {k : IntKind} {lo : Nat} (t : TypeId) (x y : Operand) (ht : P.underlying t = some .string) (h2 : lo ≤ l.length) :
    Tri P N ⟨dst, .slice t x (some y) none none, ty, pos, af, gd⟩ [(x, .flat (.string ⟨l.toArray⟩)), (y, .flat (.int k lo))] [] (.flat (.string ⟨(l.drop lo).toArray⟩)) [] := Tri.val fun M w G ρ hv => by
  refine ⟨.string ⟨(l.drop lo).toArray⟩, ?_, by simp only [Rep]⟩
  have := run_sliceStr (P := P) (l := l) w ht (some (k, lo)) none h2 (Nat.le_refl _)
  simp only [Option.map_some, Option.map_none, Option.elim, List.take_length] at this
  simp only [execOp, hv.one, hv.2.one, Option.map_some, Option.map_none, Sem.run_bind, sliceAt_str w ht, this, Result.andThen_ok, Sem.run_pure]
theorem run_strOp {op : BinOp} {a b : ByteArray} {v : Value} {t : TypeId} {x y : Operand} (w : World) (h : (Op.stringOp op a b).run P w = .ok v w) (hop : op ≠ .shl ∧ op ≠ .shr) (ρ : Operand → Value) (hx : ρ x = .string a) (hy : ρ y = .string b) (ty' : TypeId) :
    (execOp ρ ⟨dst, .binOp op t x y ty', ty, pos, af, gd⟩).run P w = .ok (.value v) w := by
  have h2 : (binOp op t (.string a) (.string b)).run P w = .ok v w := by
    cases op <;> first | exact h | (exact absurd rfl hop.1) | (exact absurd rfl hop.2)
  simp only [execOp, hx, hy, Sem.run_bind]
  have : (eqGuard op t x y (.string a) (.string b)).run P w = .ok () w := by
    unfold eqGuard; split <;> rfl
  rw [this]
  simp only [Result.andThen_ok, h2, Sem.run_pure]
theorem T.catStr {a b : List UInt8} (t ty' : TypeId) (x y : Operand) (h : a.length + b.length ≤ 9223372036854775807) :
    Tri P N ⟨dst, .binOp .add t x y ty', ty, pos, af, gd⟩ [(x, .flat (.string ⟨a.toArray⟩)), (y, .flat (.string ⟨b.toArray⟩))] [] (.flat (.string ⟨(a ++ b).toArray⟩)) [] := Tri.val fun M w G ρ hv =>
  ⟨.string ⟨(a ++ b).toArray⟩, run_strOp w (by
    have hx : (⟨a.toArray⟩ : ByteArray) ++ (⟨b.toArray⟩ : ByteArray) = ⟨(a ++ b).toArray⟩ := by
      apply bytes_inj
      simp
    have hs : ¬ (((⟨a.toArray⟩ : ByteArray).size + (⟨b.toArray⟩ : ByteArray).size : Nat) : Int) > IntKind.i64.max := by
      have : IntKind.i64.max = 9223372036854775807 := by decide
      rw [this, bsz, bsz]; omega
    simp only [Op.stringOp, if_neg hs, hx, Sem.run_pure]) ⟨by decide, by decide⟩ ρ hv.one hv.2.one ty', by simp only [Rep]⟩
theorem str_beq (a b : List UInt8) : ((⟨a.toArray⟩ : ByteArray).toList == (⟨b.toArray⟩ : ByteArray).toList) = decide (a = b) := by
  rw [ByteArray.toList_eq, ByteArray.toList_eq]
  simp only [List.toList_toArray]
  exact Bool.beq_eq_decide_eq a b
theorem T.eqlStr {a b : List UInt8} (t ty' : TypeId) (x y : Operand) :
    Tri P N ⟨dst, .binOp .eql t x y ty', ty, pos, af, gd⟩ [(x, .flat (.string ⟨a.toArray⟩)), (y, .flat (.string ⟨b.toArray⟩))] [] (.flat (.bool (decide (a = b)))) [] := Tri.val fun M w G ρ hv =>
  ⟨.bool (decide (a = b)), run_strOp w (by simp only [Op.stringOp, str_beq, Sem.run_pure]) ⟨by decide, by decide⟩ ρ hv.one hv.2.one ty', by simp only [Rep]⟩
theorem T.neqStr {a b : List UInt8} (t ty' : TypeId) (x y : Operand) :
    Tri P N ⟨dst, .binOp .neq t x y ty', ty, pos, af, gd⟩ [(x, .flat (.string ⟨a.toArray⟩)), (y, .flat (.string ⟨b.toArray⟩))] [] (.flat (.bool (decide (a ≠ b)))) [] := Tri.val fun M w G ρ hv =>
  ⟨.bool (decide (a ≠ b)), run_strOp w (by simp only [Op.stringOp, str_beq, Sem.run_pure, decide_not, ne_eq]) ⟨by decide, by decide⟩ ρ hv.one hv.2.one ty', by simp only [Rep]⟩

/-! bytes and strings -/
theorem T.convBS {l : List UInt8} {f : Bool} {e n len : Nat} {ds : List D} (s t : TypeId) (x : Operand) (hs : P.underlying s = some (.slice e)) (he : P.underlying e = some (.int .u8)) (ht : P.underlying t = some .string) (hn : n = 1) (hd : ds = bD l) :
    Tri P N ⟨dst, .convert s t x, ty, pos, af, gd⟩ [(x, .sl f n len ds)] [] (.flat (.string ⟨l.toArray⟩)) [] := Tri.val fun M w G ρ hv => by
  subst hd; subst hn
  have q1 := hv.1
  simp only [Rep] at q1
  obtain ⟨a, cap, r1, r2, r3, r4, r5, r6⟩ := q1
  rw [bD_len, Nat.mul_one] at r4
  refine ⟨.string ⟨l.toArray⟩, ?_, by simp only [Rep]⟩
  have hcs : (convert s t (ρ x)).run P w = .ok (.string ⟨l.toArray⟩) w := by
    rw [r1]
    cases a with
    | none =>
      have hl : l = [] := by
        rcases r6 with r6 | ⟨b, o, h, _⟩
        · exact List.eq_nil_of_length_eq_zero (by omega)
        · cases h
      subst hl
      simp [convert, run_underlying hs, run_underlying ht, run_underlying he, Conv.bytesToString]
      rfl
    | some ad =>
      rw [← r4]
      refine run_convert_bytes_back w s t e ad cap l hs he ht fun j hj => ?_
      rcases r6 with r6 | ⟨b, o, h, _, r8⟩
      · omega
      · cases h
        obtain ⟨u, q1, q2⟩ := r8.get j (d := .flat (.int .u8 l[j].toNat)) (by simp [bD, hj])
        simp only [Rep] at q2
        subst q2
        rw [add_off]; exact q1
  simp only [execOp, Sem.run_bind, hcs, Result.andThen_ok, Sem.run_pure]
theorem T.convOS {l : List UInt8} {id L e e' n : Nat} {ds : List D} (s t : TypeId) (x : Operand) (hs : P.underlying s = some (.slice e)) (he : P.underlying e = some (.int .u8)) (ht : P.underlying t = some .string) (hn : n = 1) (hd : ds = bD l) :
    Tri P N ⟨dst, .convert s t x, ty, pos, af, gd⟩ [(x, .own id L)] [(id, some (.row e' n L ds))] (.flat (.string ⟨l.toArray⟩)) [] := Tri.read fun w0 M0 B0 g s' a w hs' hE hv => by
  subst hd; subst hn
  obtain ⟨hu, vs, o1, o2⟩ := own_row hs' hE.1 hv.1
  have h3 := bD_rep o2
  subst h3
  have hl : l.length = L := by have := o1.1; simpa using this
  refine ⟨.string ⟨l.toArray⟩, w, ?_, Mut.refl _ w, by simp only [Rep]⟩
  have hcs : (convert s t (a.eval x)).run P w = .ok (.string ⟨l.toArray⟩) w := by
    rcases own_cells o1 with ⟨q1, q2⟩ | ⟨b, cap, q1, q2, q3, q4⟩
    · rw [q1]
      have hl : l = [] := List.eq_nil_of_length_eq_zero (by omega)
      subst hl
      simp [convert, run_underlying hs, run_underlying ht, run_underlying he, Conv.bytesToString]
      rfl
    · rw [q1, ← hl]
      exact run_convert_bytes_back w s t e ⟨b, 0, none⟩ cap l hs he ht fun j hj => by rw [add_off, Nat.zero_add]; exact q4 j _ (by simp [hj])
  simp only [execOp, Sem.run_bind, hcs, Result.andThen_ok, Sem.run_pure]

/-! rows made -/
theorem StG.newRow {w0 : World} {M0 : Nat → Prop} {B0 : Bd} {g : Gh} {s : DS} {a : Act} {w w' : World} (hs : StG w0 M0 B0 N g s a w) {id e n L : Nat} {cs : List D} {vs : List Value} {v : Value} (hid : newId N id = true) (hno : lkE s.σ id = none) (hm : Fix w w') (hown : OwnR w' e n v L vs)
    (hnew : ∀ b, v.ownBlock = some b → w.heap.size ≤ b) (hrep : RepL (Mx M0 g s.σ) w (some (g, s.σ)) cs vs) (hd : dstOk N dst = true) : St w0 M0 B0 N ⟨updF s.f dst (.own id L), [(id, some (.row e n L cs))] ++ s.σ⟩ (a.put dst v) w' := by
  have hm' : Mut (fun b => blkOf g s.σ id = some b) w w' := hm.mono (fun _ _ e => e.elim)
  have hgrow : Grow (g, s.σ) (⟨g.blk, fun k => if k = id then v else g.row k⟩, (id, some (.row e n L cs)) :: s.σ) :=
    ⟨fun k cs hc => by
      have hne : k ≠ id := fun e => by subst e; simp only at hc; rw [hno] at hc; cases hc
      exact ⟨⟨cs, by rw [lkE_cons, if_neg (fun e => hne e.symm)]; exact hc⟩, rfl⟩,
     fun k e n len cs hc => by
      have hne : k ≠ id := fun e => by subst e; simp only at hc; rw [hno] at hc; cases hc
      exact .inr ⟨e, n, len, cs, by rw [lkE_cons, if_neg (fun e => hne e.symm)]; exact hc, Nat.le_refl _, fun _ => by simp [hne]⟩,
     fun k hc => by
      have hne : k ≠ id := fun e => by subst e; simp only at hc; rw [hno] at hc; cases hc
      simp only at hc ⊢
      rw [lkE_cons, if_neg (fun e => hne e.symm)]; exact hc⟩
  obtain ⟨a5, c5, hv5⟩ : ∃ a c, v = .slice a L c := by
    rcases hown.2 with ⟨h, h0⟩ | ⟨g1, cap, cur, fz, h, _⟩
    · exact ⟨none, 0, by rw [h, h0]⟩
    · exact ⟨_, _, h⟩
  refine ⟨⟨g.blk, fun k => if k = id then v else g.row k⟩, hs.set1 (g' := ⟨g.blk, fun k => if k = id then v else g.row k⟩) id (.row e n L cs) (fun _ => hid) hm' (fun k hk => rfl) (fun k hk => by simp [hk]) hgrow ?_ ?_ hd ?_⟩
  · intro b hb
    simp only [blkOf, lkE_cons, if_pos] at hb
    refine ⟨?_, fun h => by have := hnew b hb; omega⟩
    rcases hown.2 with ⟨h, h0⟩ | ⟨g1, cap, cur, fz, h, h2, _⟩
    · rw [h] at hb; cases hb
    · rw [h] at hb
      simp only [Value.ownBlock, Option.some.injEq] at hb
      subst hb
      exact (Array.getElem?_eq_some_iff.1 h2).1
  · intro M hM
    exact ⟨vs, by simpa using hown, RepL.step (G := some _) (G' := some _) hgrow hm (fun _ _ e => e.elim) hM cs vs hrep⟩
  · intro M hM
    simp only [Rep]
    exact ⟨_, _, rfl, .inr ⟨e, n, L, cs, by rw [lkE_cons, if_pos rfl], Nat.le_refl _, fun _ => by simp⟩, a5, c5, hv5⟩
theorem T.convSB {l : List UInt8} {e cap : Nat} {u : TypeDesc} (id : Nat) (s t : TypeId) (x : Operand) (hs : P.underlying s = some u) (ht : P.underlying t = some (.slice e)) (he : P.underlying e = some (.int .u8)) (hl : l.length ≤ 140737488355328) (hid : newId N id = true := by first | exact rfl | assumption | decide +kernel) :
    Tri P N ⟨dst, .convert s t x, ty, pos, af, gd⟩ [(x, .flat (.string ⟨l.toArray⟩))] [(id, none)] (.own id l.length) [(id, some (.row e 1 l.length (bD l)))] := by
  refine ⟨?_⟩
  intro w0 M0 B0 s' a w next Q h1 h2 hd ⟨g, hs'⟩ hk
  have hv := hs'.vals h1
  have hr := Lib.run_convert_string_bytes (P := P) w s t e ⟨l.toArray⟩ hs ht he
  have hex : (execOp a.eval ⟨dst, .convert s t x, ty, pos, af, gd⟩).run P w = .ok (.value (.slice (some ⟨w.heap.size, 0, none⟩) l.length (grownCap w l.length 0 e))) (Lib.bytesWorld w e ⟨l.toArray⟩) := by
    rw [bsz] at hr
    simp only [execOp, hv.one, Sem.run_bind, hr, Result.andThen_ok, Sem.run_pure]
  refine opIn_val hex ?_
  have hge := grownCap_ge w l.length 0 e
  have hcm : grownCap w l.length 0 e ≤ maxLen := grownCap_le_maxLen w l.length 0 e (by unfold maxLen; omega)
  have hsz : (Lib.bytesCells w e ⟨l.toArray⟩).size = grownCap w l.length 0 e := by simp [Lib.bytesCells, bsz]; omega
  refine hk _ _ (hs'.newRow hid h2.1 ?_ (vs := l.map fun c => .int .u8 c.toNat) ?_ ?_ (bD_mk l) hd)
  · refine ⟨?_, ?_, ?_, by rw [Lib.bytesWorld_size]; omega, fun k hk _ => Lib.bytesWorld_at_old w e _ k hk⟩ <;> simp [Lib.bytesWorld, World.freeze, World.alloc, World.drew, -World.alloc_eq, -World.drew_eq]
  · refine ⟨by simp, .inr ⟨w.heap.size, _, _, _, rfl, Lib.bytesWorld_at_new w e _, .inr (Nat.le_refl _), hge, hcm, by rw [hsz, Nat.mul_one], ?_⟩⟩
    simp [Lib.bytesCells]
  · intro b hb
    simp only [Value.ownBlock, Option.some.injEq] at hb
    omega

/-! ints of other kinds -/
theorem T.convI {k k2 : IntKind} {n m : Int} {u : TypeDesc} (s t : TypeId) (x : Operand) (hs : P.underlying s = some u) (ht : P.underlying t = some (.int k2)) (h : k2.wrap n = m) :
    Tri P N ⟨dst, .convert s t x, ty, pos, af, gd⟩ [(x, .flat (.int k n))] [] (.flat (.int k2 m)) [] := Tri.val fun M w G ρ hv =>
  ⟨.int k2 m, by simp [execOp, convert, run_underlying hs, run_underlying ht, hv.one, Conv.intToInt, h], by simp only [Rep]⟩
theorem T.and {k : IntKind} {a b c : Int} (t ty' : TypeId) (x y : Operand) (h : k.wrap ((BitVec.ofInt k.bits a &&& BitVec.ofInt k.bits b).toNat) = c) : Tri P N ⟨dst, .binOp .and t x y ty', ty, pos, af, gd⟩ [(x, .flat (.int k a)), (y, .flat (.int k b))] [] (.flat (.int k c)) [] :=
  T.bin t ty' x y fun w => by simp only [binOp, Op.intBits, ne_eq, not_true_eq_false, if_false, h, Sem.run_pure]
theorem T.or {k : IntKind} {a b c : Int} (t ty' : TypeId) (x y : Operand) (h : k.wrap ((BitVec.ofInt k.bits a ||| BitVec.ofInt k.bits b).toNat) = c) : Tri P N ⟨dst, .binOp .or t x y ty', ty, pos, af, gd⟩ [(x, .flat (.int k a)), (y, .flat (.int k b))] [] (.flat (.int k c)) [] :=
  T.bin t ty' x y fun w => by simp only [binOp, Op.intBits, ne_eq, not_true_eq_false, if_false, h, Sem.run_pure]
theorem T.xor {k : IntKind} {a b c : Int} (t ty' : TypeId) (x y : Operand) (h : k.wrap ((BitVec.ofInt k.bits a ^^^ BitVec.ofInt k.bits b).toNat) = c) : Tri P N ⟨dst, .binOp .xor t x y ty', ty, pos, af, gd⟩ [(x, .flat (.int k a)), (y, .flat (.int k b))] [] (.flat (.int k c)) [] :=
  T.bin t ty' x y fun w => by simp only [binOp, Op.intBits, ne_eq, not_true_eq_false, if_false, h, Sem.run_pure]
theorem T.andNot {k : IntKind} {a b c : Int} (t ty' : TypeId) (x y : Operand) (h : k.wrap ((BitVec.ofInt k.bits a &&& ~~~ BitVec.ofInt k.bits b).toNat) = c) : Tri P N ⟨dst, .binOp .andNot t x y ty', ty, pos, af, gd⟩ [(x, .flat (.int k a)), (y, .flat (.int k b))] [] (.flat (.int k c)) [] :=
  T.bin t ty' x y fun w => by simp only [binOp, Op.intBits, ne_eq, not_true_eq_false, if_false, h, Sem.run_pure]
theorem run_bin2 {op : BinOp} {k k2 : IntKind} {a b : Int} {v : Value} {t : TypeId} {x y : Operand} (w : World) (h : (binOp op t (.int k a) (.int k2 b)).run P w = .ok v w) (ρ : Operand → Value) (hx : ρ x = .int k a) (hy : ρ y = .int k2 b) (ty' : TypeId) :
    (execOp ρ ⟨dst, .binOp op t x y ty', ty, pos, af, gd⟩).run P w = .ok (.value v) w := by
  simp only [execOp, hx, hy, Sem.run_bind]
  have : (eqGuard op t x y (.int k a) (.int k2 b)).run P w = .ok () w := by
    unfold eqGuard; split <;> rfl
  rw [this]
  simp only [Result.andThen_ok, h, Sem.run_pure]
theorem T.shl {k k2 : IntKind} {a b c : Int} (t ty' : TypeId) (x y : Operand) (h0 : 0 ≤ b) (h : k.wrap (a * 2 ^ (min b.toNat k.bits)) = c) : Tri P N ⟨dst, .binOp .shl t x y ty', ty, pos, af, gd⟩ [(x, .flat (.int k a)), (y, .flat (.int k2 b))] [] (.flat (.int k c)) [] :=
  Tri.val fun M w G ρ hv => ⟨.int k c, run_bin2 w (by simp only [binOp, Op.shift, if_neg (show ¬ b < 0 by omega), h, Sem.run_pure]) ρ hv.one hv.2.one ty', by simp only [Rep]⟩
theorem T.shr {k k2 : IntKind} {a b c : Int} (t ty' : TypeId) (x y : Operand) (h0 : 0 ≤ b) (h : a.fdiv (2 ^ (min b.toNat k.bits)) = c) : Tri P N ⟨dst, .binOp .shr t x y ty', ty, pos, af, gd⟩ [(x, .flat (.int k a)), (y, .flat (.int k2 b))] [] (.flat (.int k c)) [] :=
  Tri.val fun M w G ρ hv => ⟨.int k c, run_bin2 w (by simp only [binOp, Op.shift, if_neg (show ¬ b < 0 by omega), h, Sem.run_pure]) ρ hv.one hv.2.one ty', by simp only [Rep]⟩
theorem T.neg {k : IntKind} {a c : Int} (t : TypeId) (x : Operand) (h : k.wrap (0 - a) = c) : Tri P N ⟨dst, .unOp .neg t x, ty, pos, af, gd⟩ [(x, .flat (.int k a))] [] (.flat (.int k c)) [] :=
  Tri.val fun M w G ρ hv => ⟨.int k c, by simp only [execOp, hv.one, Op.unary, Op.intArith, h, Sem.run_bind, Sem.run_pure, Result.andThen_ok], by simp only [Rep]⟩
end
end Go.Dm

set_option linter.unusedSimpArgs false
set_option linter.unusedVariables false
set_option linter.unusedSectionVars false
set_option maxHeartbeats 400000
namespace Go.Dm
open Go Go.RowKit Go.PP
variable [GlobW] [Rnd]

/-! words -/
theorem wrapU (k : IntKind) (h : k.signed = false) (x : Int) : k.wrap x = x % 2 ^ k.bits := by simp [IntKind.wrap, h]
theorem wu32 {x : Int} (h0 : 0 ≤ x) (h : x < 4294967296) : IntKind.u32.wrap x = x := by
  rw [wrapU .u32 rfl]; exact Int.emod_eq_of_lt h0 h
theorem wu64 {x : Int} (h0 : 0 ≤ x) (h : x < 18446744073709551616) : IntKind.u64.wrap x = x := by
  rw [wrapU .u64 rfl]; exact Int.emod_eq_of_lt h0 h
theorem wu8 {x : Int} (h0 : 0 ≤ x) (h : x < 256) : IntKind.u8.wrap x = x := by
  rw [wrapU .u8 rfl]; exact Int.emod_eq_of_lt h0 h
theorem wu16 {x : Int} (h0 : 0 ≤ x) (h : x < 65536) : IntKind.u16.wrap x = x := by
  rw [wrapU .u16 rfl]; exact Int.emod_eq_of_lt h0 h
theorem word_mod {w : Nat} (z : Int) : z % 2 ^ w = ((BitVec.ofInt w z).toNat : Int) := by
  rw [BitVec.toNat_ofInt]
  have : (0 : Int) ≤ z % (2 ^ w : Nat) := Int.emod_nonneg _ (by exact_mod_cast (Nat.pos_iff_ne_zero.1 (Nat.two_pow_pos w)))
  rw [Int.toNat_of_nonneg this]
  push_cast
  rfl
theorem ofInt_nat {w : Nat} (x : BitVec w) : BitVec.ofInt w (x.toNat : Int) = x := by simp
theorem word_wrap (k : IntKind) (h : k.signed = false) (z : Int) : k.wrap z = ((BitVec.ofInt k.bits z).toNat : Int) := by rw [wrapU k h]; exact word_mod z
theorem word_nat (k : IntKind) (h : k.signed = false) (x : BitVec k.bits) : k.wrap (x.toNat : Int) = x.toNat := by
  rw [word_wrap k h, ofInt_nat]
theorem w32_add (x : BitVec 32) (b : Int) : IntKind.u32.wrap ((x.toNat : Int) + b) = ((x + BitVec.ofInt 32 b).toNat : Int) := by
  rw [word_wrap .u32 rfl]; show ((BitVec.ofInt 32 _).toNat : Int) = _; rw [BitVec.ofInt_add, ofInt_nat]
theorem w32_sub (x : BitVec 32) (b : Int) : IntKind.u32.wrap ((x.toNat : Int) - b) = ((x - BitVec.ofInt 32 b).toNat : Int) := by
  rw [word_wrap .u32 rfl]; show ((BitVec.ofInt 32 _).toNat : Int) = _; rw [Int.sub_eq_add_neg, BitVec.ofInt_add, BitVec.ofInt_neg, ofInt_nat, BitVec.sub_eq_add_neg]
theorem w32_mul (x : BitVec 32) (b : Int) : IntKind.u32.wrap ((x.toNat : Int) * b) = ((x * BitVec.ofInt 32 b).toNat : Int) := by
  rw [word_wrap .u32 rfl]; show ((BitVec.ofInt 32 _).toNat : Int) = _; rw [BitVec.ofInt_mul, ofInt_nat]
theorem w64_add (x : BitVec 64) (b : Int) : IntKind.u64.wrap ((x.toNat : Int) + b) = ((x + BitVec.ofInt 64 b).toNat : Int) := by
  rw [word_wrap .u64 rfl]; show ((BitVec.ofInt 64 _).toNat : Int) = _; rw [BitVec.ofInt_add, ofInt_nat]
theorem w64_sub (x : BitVec 64) (b : Int) : IntKind.u64.wrap ((x.toNat : Int) - b) = ((x - BitVec.ofInt 64 b).toNat : Int) := by
  rw [word_wrap .u64 rfl]; show ((BitVec.ofInt 64 _).toNat : Int) = _; rw [Int.sub_eq_add_neg, BitVec.ofInt_add, BitVec.ofInt_neg, ofInt_nat, BitVec.sub_eq_add_neg]
theorem w64_mul (x : BitVec 64) (b : Int) : IntKind.u64.wrap ((x.toNat : Int) * b) = ((x * BitVec.ofInt 64 b).toNat : Int) := by
  rw [word_wrap .u64 rfl]; show ((BitVec.ofInt 64 _).toNat : Int) = _; rw [BitVec.ofInt_mul, ofInt_nat]
/-- Bits of words: of 32, of 64 and of 8 bits, the first known as a word. -/
theorem w32_xor (x : BitVec 32) (b : Int) : IntKind.u32.wrap ((BitVec.ofInt IntKind.u32.bits (x.toNat : Int) ^^^ BitVec.ofInt IntKind.u32.bits b).toNat) = ((x ^^^ BitVec.ofInt 32 b).toNat : Int) := by
  rw [word_nat .u32 rfl]; show ((BitVec.ofInt 32 _ ^^^ BitVec.ofInt 32 _).toNat : Int) = _; rw [ofInt_nat]
theorem w32_and (x : BitVec 32) (b : Int) : IntKind.u32.wrap ((BitVec.ofInt IntKind.u32.bits (x.toNat : Int) &&& BitVec.ofInt IntKind.u32.bits b).toNat) = ((x &&& BitVec.ofInt 32 b).toNat : Int) := by
  rw [word_nat .u32 rfl]; show ((BitVec.ofInt 32 _ &&& BitVec.ofInt 32 _).toNat : Int) = _; rw [ofInt_nat]
theorem w32_or (x : BitVec 32) (b : Int) : IntKind.u32.wrap ((BitVec.ofInt IntKind.u32.bits (x.toNat : Int) ||| BitVec.ofInt IntKind.u32.bits b).toNat) = ((x ||| BitVec.ofInt 32 b).toNat : Int) := by
  rw [word_nat .u32 rfl]; show ((BitVec.ofInt 32 _ ||| BitVec.ofInt 32 _).toNat : Int) = _; rw [ofInt_nat]
theorem w64_xor (x y : BitVec 64) : IntKind.u64.wrap ((BitVec.ofInt IntKind.u64.bits (x.toNat : Int) ^^^ BitVec.ofInt IntKind.u64.bits (y.toNat : Int)).toNat) = ((x ^^^ y).toNat : Int) := by
  rw [word_nat .u64 rfl]; show ((BitVec.ofInt 64 _ ^^^ BitVec.ofInt 64 _).toNat : Int) = _; rw [ofInt_nat, ofInt_nat]
theorem w64_and (x y : BitVec 64) : IntKind.u64.wrap ((BitVec.ofInt IntKind.u64.bits (x.toNat : Int) &&& BitVec.ofInt IntKind.u64.bits (y.toNat : Int)).toNat) = ((x &&& y).toNat : Int) := by
  rw [word_nat .u64 rfl]; show ((BitVec.ofInt 64 _ &&& BitVec.ofInt 64 _).toNat : Int) = _; rw [ofInt_nat, ofInt_nat]
theorem w64_or (x y : BitVec 64) : IntKind.u64.wrap ((BitVec.ofInt IntKind.u64.bits (x.toNat : Int) ||| BitVec.ofInt IntKind.u64.bits (y.toNat : Int)).toNat) = ((x ||| y).toNat : Int) := by
  rw [word_nat .u64 rfl]; show ((BitVec.ofInt 64 _ ||| BitVec.ofInt 64 _).toNat : Int) = _; rw [ofInt_nat, ofInt_nat]
theorem w64_andNot (x y : BitVec 64) : IntKind.u64.wrap ((BitVec.ofInt IntKind.u64.bits (x.toNat : Int) &&& ~~~ BitVec.ofInt IntKind.u64.bits (y.toNat : Int)).toNat) = ((x &&& ~~~ y).toNat : Int) := by
  rw [word_nat .u64 rfl]; show ((BitVec.ofInt 64 _ &&& ~~~ BitVec.ofInt 64 _).toNat : Int) = _; rw [ofInt_nat, ofInt_nat]

theorem quoU64 {a b : Int} (ha : 0 ≤ a) (hb : 0 < b) (h : a < 18446744073709551616) : IntKind.u64.wrap (a.tdiv b) = a / b := by
  rw [Int.tdiv_eq_ediv_of_nonneg ha]
  have h1 : 0 ≤ a / b := Int.ediv_nonneg ha (by omega)
  have h2 : a / b ≤ a := Int.ediv_le_self b ha
  exact wu64 (by omega) (by omega)
theorem quoU32 {a b : Int} (ha : 0 ≤ a) (hb : 0 < b) (h : a < 4294967296) : IntKind.u32.wrap (a.tdiv b) = a / b := by
  rw [Int.tdiv_eq_ediv_of_nonneg ha]
  have h1 : 0 ≤ a / b := Int.ediv_nonneg ha (by omega)
  have h2 : a / b ≤ a := Int.ediv_le_self b ha
  exact wu32 (by omega) (by omega)
theorem remN (a b : Nat) : (a : Int).tmod (b : Int) = ((a % b : Nat) : Int) := rem64 (Int.natCast_nonneg a)
theorem remL (a b : Nat) : (a : Int).tmod (@OfNat.ofNat Int b (@instOfNat b)) = ((a % (@OfNat.ofNat Nat b (instOfNatNat b)) : Nat) : Int) := rem64 (Int.natCast_nonneg a)
theorem quoN64 (a b : Nat) (hb : 0 < b) (h : a ≤ 9223372036854775807) : IntKind.i64.wrap ((a : Int).tdiv (b : Int)) = ((a / b : Nat) : Int) := quo64 (by omega) (by omega) (by omega)
theorem quoL64 (a b : Nat) (hb : 0 < b) (h : a ≤ 9223372036854775807) : IntKind.i64.wrap ((a : Int).tdiv (@OfNat.ofNat Int b (@instOfNat b))) = ((a / (@OfNat.ofNat Nat b (instOfNatNat b)) : Nat) : Int) := quoN64 a b hb h
theorem quoNU64 (a b : Nat) (hb : 0 < b) (h : a < 18446744073709551616) : IntKind.u64.wrap ((a : Int).tdiv (b : Int)) = ((a / b : Nat) : Int) := quoU64 (by omega) (by omega) (by omega)
theorem quoLU64 (a b : Nat) (hb : 0 < b) (h : a < 18446744073709551616) : IntKind.u64.wrap ((a : Int).tdiv (@OfNat.ofNat Int b (@instOfNat b))) = ((a / (@OfNat.ofNat Nat b (instOfNatNat b)) : Nat) : Int) := quoNU64 a b hb h
theorem quoNU32 (a b : Nat) (hb : 0 < b) (h : a < 4294967296) : IntKind.u32.wrap ((a : Int).tdiv (b : Int)) = ((a / b : Nat) : Int) := quoU32 (by omega) (by omega) (by omega)
theorem quoLU32 (a b : Nat) (hb : 0 < b) (h : a < 4294967296) : IntKind.u32.wrap ((a : Int).tdiv (@OfNat.ofNat Int b (@instOfNat b))) = ((a / (@OfNat.ofNat Nat b (instOfNatNat b)) : Nat) : Int) := quoNU32 a b hb h
/-- A number that is one of Nat. -/
structure IsN (z : Int) (n : Nat) : Prop where
  h : z = (n : Int)
theorem IsN.c (n : Nat) : IsN (n : Int) n := ⟨rfl⟩
theorem IsN.l (n : Nat) : IsN (@OfNat.ofNat Int n (@instOfNat n)) (@OfNat.ofNat Nat n (instOfNatNat n)) := ⟨rfl⟩
theorem IsN.add {a b : Int} {m n : Nat} (h : IsN a m) (k : IsN b n) : IsN (a + b) (m + n) := ⟨by rw [h.h, k.h]; rfl⟩
theorem IsN.mul {a b : Int} {m n : Nat} (h : IsN a m) (k : IsN b n) : IsN (a * b) (m * n) := ⟨by rw [h.h, k.h]; rfl⟩
theorem IsN.sub {a b : Int} {m n : Nat} (h : IsN a m) (k : IsN b n) (hl : n ≤ m) : IsN (a - b) (m - n) := ⟨by rw [h.h, k.h]; omega⟩
theorem IsN.toNat {a : Int} (h : 0 ≤ a) : IsN a a.toNat := ⟨by omega⟩
theorem w32_andNot (x y : BitVec 32) : IntKind.u32.wrap ((BitVec.ofInt IntKind.u32.bits (x.toNat : Int) &&& ~~~ BitVec.ofInt IntKind.u32.bits (y.toNat : Int)).toNat) = ((x &&& ~~~ y).toNat : Int) := by
  rw [word_nat .u32 rfl]; show ((BitVec.ofInt 32 _ &&& ~~~ BitVec.ofInt 32 _).toNat : Int) = _; rw [ofInt_nat, ofInt_nat]
theorem w8_xor (x y : UInt8) : IntKind.u8.wrap ((BitVec.ofInt IntKind.u8.bits (x.toNat : Int) ^^^ BitVec.ofInt IntKind.u8.bits (y.toNat : Int)).toNat) = ((x ^^^ y).toNat : Int) := by
  rw [word_nat .u8 rfl]; show ((BitVec.ofInt 8 (x.toBitVec.toNat : Int) ^^^ BitVec.ofInt 8 (y.toBitVec.toNat : Int)).toNat : Int) = _; rw [ofInt_nat, ofInt_nat]; rfl
theorem w8_and (x y : UInt8) : IntKind.u8.wrap ((BitVec.ofInt IntKind.u8.bits (x.toNat : Int) &&& BitVec.ofInt IntKind.u8.bits (y.toNat : Int)).toNat) = ((x &&& y).toNat : Int) := by
  rw [word_nat .u8 rfl]; show ((BitVec.ofInt 8 (x.toBitVec.toNat : Int) &&& BitVec.ofInt 8 (y.toBitVec.toNat : Int)).toNat : Int) = _; rw [ofInt_nat, ofInt_nat]; rfl
theorem w8_or (x y : UInt8) : IntKind.u8.wrap ((BitVec.ofInt IntKind.u8.bits (x.toNat : Int) ||| BitVec.ofInt IntKind.u8.bits (y.toNat : Int)).toNat) = ((x ||| y).toNat : Int) := by
  rw [word_nat .u8 rfl]; show ((BitVec.ofInt 8 (x.toBitVec.toNat : Int) ||| BitVec.ofInt 8 (y.toBitVec.toNat : Int)).toNat : Int) = _; rw [ofInt_nat, ofInt_nat]; rfl
theorem w8_andNot (x y : UInt8) : IntKind.u8.wrap ((BitVec.ofInt IntKind.u8.bits (x.toNat : Int) &&& ~~~ BitVec.ofInt IntKind.u8.bits (y.toNat : Int)).toNat) = ((x &&& ~~~ y).toNat : Int) := by
  rw [word_nat .u8 rfl]; show ((BitVec.ofInt 8 (x.toBitVec.toNat : Int) &&& ~~~ BitVec.ofInt 8 (y.toBitVec.toNat : Int)).toNat : Int) = _; rw [ofInt_nat, ofInt_nat]; rfl
theorem u8_lt (c : UInt8) : c.toNat < 256 := c.toNat_lt
theorem w64_u8 (c : UInt8) : IntKind.i64.wrap (c.toNat : Int) = c.toNat := w64 (by omega) (by have := u8_lt c; omega)
theorem wu64_u8 (c : UInt8) : IntKind.u64.wrap (c.toNat : Int) = c.toNat := wu64 (by omega) (by have := u8_lt c; omega)
theorem wu32_u8 (c : UInt8) : IntKind.u32.wrap (c.toNat : Int) = c.toNat := wu32 (by omega) (by have := u8_lt c; omega)
theorem wu64_32 (x : BitVec 32) : IntKind.u64.wrap (x.toNat : Int) = x.toNat := wu64 (by omega) (by have := x.isLt; omega)
theorem w64_32 (x : BitVec 32) : IntKind.i64.wrap (x.toNat : Int) = x.toNat := w64 (by omega) (by have := x.isLt; omega)
theorem shrN (k : IntKind) (x b : Nat) (h : b ≤ k.bits) : (x : Int).fdiv (2 ^ (min (b : Int).toNat k.bits)) = ((x / 2 ^ b : Nat) : Int) := by
  rw [Int.toNat_natCast, Nat.min_eq_left h, Int.fdiv_eq_ediv_of_nonneg _ (by exact_mod_cast Nat.zero_le _)]
  push_cast; rfl
theorem shl64 (x : BitVec 64) (b : Nat) : IntKind.u64.wrap ((x.toNat : Int) * 2 ^ (min (b : Int).toNat IntKind.u64.bits)) = ((x <<< b).toNat : Int) := by
  rw [word_wrap .u64 rfl]
  show ((BitVec.ofInt 64 _).toNat : Int) = _
  rw [Int.toNat_natCast]
  congr 1
  rw [BitVec.toNat_ofInt, BitVec.toNat_shiftLeft, Nat.shiftLeft_eq]
  show (((x.toNat : Int) * 2 ^ (min b 64)) % ((2 ^ 64 : Nat) : Int)).toNat = _
  have : ((x.toNat : Int) * 2 ^ (min b 64)) = ((x.toNat * 2 ^ (min b 64) : Nat) : Int) := by push_cast; rfl
  rw [this, ← Int.natCast_emod, Int.toNat_natCast]
  rcases Nat.le_total b 64 with h | h
  · rw [Nat.min_eq_left h]
  · rw [Nat.min_eq_right h, Nat.mul_mod_left]
    have : 2 ^ b = 2 ^ (b - 64) * 2 ^ 64 := by rw [← Nat.pow_add]; congr 1; omega
    rw [this, ← Nat.mul_assoc, Nat.mul_mod_left]
theorem shl32 (x : BitVec 32) (b : Nat) : IntKind.u32.wrap ((x.toNat : Int) * 2 ^ (min (b : Int).toNat IntKind.u32.bits)) = ((x <<< b).toNat : Int) := by
  rw [word_wrap .u32 rfl]
  show ((BitVec.ofInt 32 _).toNat : Int) = _
  rw [Int.toNat_natCast]
  congr 1
  rw [BitVec.toNat_ofInt, BitVec.toNat_shiftLeft, Nat.shiftLeft_eq]
  show (((x.toNat : Int) * 2 ^ (min b 32)) % ((2 ^ 32 : Nat) : Int)).toNat = _
  have : ((x.toNat : Int) * 2 ^ (min b 32)) = ((x.toNat * 2 ^ (min b 32) : Nat) : Int) := by push_cast; rfl
  rw [this, ← Int.natCast_emod, Int.toNat_natCast]
  rcases Nat.le_total b 32 with h | h
  · rw [Nat.min_eq_left h]
  · rw [Nat.min_eq_right h, Nat.mul_mod_left]
    have : 2 ^ b = 2 ^ (b - 32) * 2 ^ 32 := by rw [← Nat.pow_add]; congr 1; omega
    rw [this, ← Nat.mul_assoc, Nat.mul_mod_left]

section
variable {P : Program} {N : Nat} {dst : Option Tmp} {ty : TypeId} {pos : String} {af : Array Edge} {gd : Option (Nat × Bool)}

/-! pointers and nil -/
theorem run_ptrEq {t e : TypeId} {a b : Option Addr} (w : World) (ht : P.underlying t = some (.pointer e)) (h : a = none ∨ b = none) : (Op.equal t (.pointer a) (.pointer b)).run P w = .ok (a.isNone && b.isNone) w := by
  unfold Op.equal Op.maxDepth Op.equalIn
  rcases h with rfl | rfl
  · simp [run_underlying ht]
  · cases a <;> simp [run_underlying ht]
/-- What is known of a pointer: nil or not. -/
def isNilD : D → Option Bool
  | .flat (.pointer a) => some a.isNone
  | .ref _ _ => some false
  | .ptr _ _ => some false
  | _ => none
theorem isNilD_rep {M : Nat → Prop} {w : World} {G : Cx} {d : D} {b : Bool} {u : Value} (h : isNilD d = some b) (hr : Rep M w G d u) : ∃ a : Option Addr, u = .pointer a ∧ a.isNone = b := by
  cases d with
  | flat v =>
    simp only [Rep] at hr
    subst hr
    cases u <;> simp [isNilD] at h
    exact ⟨_, rfl, h⟩
  | ref id off => simp [isNilD] at h; simp only [Rep] at hr; obtain ⟨_, _, _, _, _, rfl⟩ := hr; exact ⟨_, rfl, by rw [h]; rfl⟩
  | ptr cs off => simp [isNilD] at h; simp only [Rep] at hr; obtain ⟨_, _, rfl, _⟩ := hr; exact ⟨_, rfl, by rw [h]; rfl⟩
  | _ => simp [isNilD] at h
theorem T.shr' {k k2 : IntKind} {a b : Int} {m n : Nat} (t ty' : TypeId) (x y : Operand) (n1 : IsN a m) (n2 : IsN b n) (h : n ≤ k.bits) : Tri P N ⟨dst, .binOp .shr t x y ty', ty, pos, af, gd⟩ [(x, .flat (.int k a)), (y, .flat (.int k2 b))] [] (.flat (.int k ((m / 2 ^ n : Nat) : Int))) [] := by
  obtain ⟨rfl⟩ := n1; obtain ⟨rfl⟩ := n2
  exact T.shr t ty' x y (by omega) (shrN k m n h)
theorem T.strHL' {l : List UInt8} {k k2 : IntKind} {lo hi : Int} {a b : Nat} (t : TypeId) (x y z : Operand) (ht : P.underlying t = some .string) (n1 : IsN lo a) (n2 : IsN hi b) (h1 : a ≤ b) (h2 : b ≤ l.length) :
    Tri P N ⟨dst, .slice t x (some y) (some z) none, ty, pos, af, gd⟩ [(x, .flat (.string ⟨l.toArray⟩)), (y, .flat (.int k lo)), (z, .flat (.int k2 hi))] [] (.flat (.string ⟨((l.take b).drop a).toArray⟩)) [] := by
  obtain ⟨rfl⟩ := n1; obtain ⟨rfl⟩ := n2
  exact T.strHL t x y z ht h1 h2
theorem T.strH' {l : List UInt8} {k2 : IntKind} {hi : Int} {b : Nat} (t : TypeId) (x z : Operand) (ht : P.underlying t = some .string) (n2 : IsN hi b) (h2 : b ≤ l.length) :
    Tri P N ⟨dst, .slice t x none (some z) none, ty, pos, af, gd⟩ [(x, .flat (.string ⟨l.toArray⟩)), (z, .flat (.int k2 hi))] [] (.flat (.string ⟨(l.take b).toArray⟩)) [] := by
  obtain ⟨rfl⟩ := n2
  exact T.strH t x z ht h2
theorem T.strL' {l : List UInt8} {k : IntKind} {lo : Int} {a : Nat} (t : TypeId) (x y : Operand) (ht : P.underlying t = some .string) (n1 : IsN lo a) (h2 : a ≤ l.length) :
    Tri P N ⟨dst, .slice t x (some y) none none, ty, pos, af, gd⟩ [(x, .flat (.string ⟨l.toArray⟩)), (y, .flat (.int k lo))] [] (.flat (.string ⟨(l.drop a).toArray⟩)) [] := by
  obtain ⟨rfl⟩ := n1
  exact T.strL t x y ht h2
theorem T.cutH' {f : Bool} {n len e : Nat} {hi : Int} {h : Nat} {k : IntKind} {cs : List D} (t : TypeId) (x y : Operand) (ht : P.underlying t = some (.slice e)) (hn : sizeOfT P e = some n) (n1 : IsN hi h) (h2 : h ≤ len) :
    Tri P N ⟨dst, .slice t x none (some y) none, ty, pos, af, gd⟩ [(x, .sl f n len cs), (y, .flat (.int k hi))] [] (.sl false n h (cs.take (h * n))) [] := by
  obtain ⟨rfl⟩ := n1
  exact T.cutH t x y ht hn h2
theorem T.cutL' {f : Bool} {n len e : Nat} {lo : Int} {l : Nat} {k : IntKind} {cs : List D} (t : TypeId) (x y : Operand) (ht : P.underlying t = some (.slice e)) (hn : sizeOfT P e = some n) (n1 : IsN lo l) (h2 : l ≤ len) :
    Tri P N ⟨dst, .slice t x (some y) none none, ty, pos, af, gd⟩ [(x, .sl f n len cs), (y, .flat (.int k lo))] [] (.sl false n (len - l) (cs.drop (l * n))) [] := by
  obtain ⟨rfl⟩ := n1
  exact T.cutL t x y ht hn h2
/-- A call that reads a row of the caller's own. -/
theorem T.callOwn1 {k id e n L : Nat} {ts : Array TypeId} {cs : List D} {d : D} (x : Operand) (he : Enters P k) (hf : DFun P k [.sl false n L cs] d) (hp : persL cs = true) (hd : noMem d = true) :
    Tri P N ⟨dst, .call { callee := .value (.func k), args := #[x], argTypes := ts }, ty, pos, af, gd⟩ [(x, .own id L)] [(id, some (.row e n L cs))] d [] :=
  T.callV (ar := [x]) (ds' := [.own id L]) [(id, some (.row e n L cs))] he hf rfl (VwL.cons (Vw.own (List.mem_cons_self ..) (VwL.pers hp)) VwL.nil) hd
theorem T.eqlPtr {t e ty' : TypeId} {x y : Operand} {d1 d2 : D} {a b : Bool} (ht : P.underlying t = some (.pointer e)) (h1 : isNilD d1 = some a) (h2 : isNilD d2 = some b) (h : (a || b) = true) :
    Tri P N ⟨dst, .binOp .eql t x y ty', ty, pos, af, gd⟩ [(x, d1), (y, d2)] [] (.flat (.bool (a && b))) [] := Tri.val fun M w G ρ hv => by
  obtain ⟨p, hp, rfl⟩ := isNilD_rep h1 hv.1
  obtain ⟨q, hq, rfl⟩ := isNilD_rep h2 hv.2.1
  have hp : ρ x = .pointer p := hp
  have hq : ρ y = .pointer q := hq
  refine ⟨.bool (p.isNone && q.isNone), ?_, by simp only [Rep]⟩
  have := run_ptrEq (P := P) (a := p) (b := q) w ht (by cases p <;> cases q <;> simp at h ⊢)
  have h3 : (binOp .eql t (.pointer p) (.pointer q)).run P w = .ok (.bool (p.isNone && q.isNone)) w := by
    show (do pure (.bool (← Op.equal t (.pointer p) (.pointer q))) : Sem Value).run P w = _
    simp only [Sem.run_bind, this, Result.andThen_ok, Sem.run_pure]
  have h4 : ∀ op : BinOp, (eqGuard op t x y (.pointer p) (.pointer q)).run P w = .ok () w := fun op => by cases op <;> rfl
  simp only [execOp, hp, hq, Sem.run_bind, h4, Result.andThen_ok]
  rw [h3]
  simp only [Result.andThen_ok, Sem.run_pure]
theorem T.neqPtr {t e ty' : TypeId} {x y : Operand} {d1 d2 : D} {a b : Bool} (ht : P.underlying t = some (.pointer e)) (h1 : isNilD d1 = some a) (h2 : isNilD d2 = some b) (h : (a || b) = true) :
    Tri P N ⟨dst, .binOp .neq t x y ty', ty, pos, af, gd⟩ [(x, d1), (y, d2)] [] (.flat (.bool (!(a && b)))) [] := Tri.val fun M w G ρ hv => by
  obtain ⟨p, hp, rfl⟩ := isNilD_rep h1 hv.1
  obtain ⟨q, hq, rfl⟩ := isNilD_rep h2 hv.2.1
  have hp : ρ x = .pointer p := hp
  have hq : ρ y = .pointer q := hq
  refine ⟨.bool (!(p.isNone && q.isNone)), ?_, by simp only [Rep]⟩
  have := run_ptrEq (P := P) (a := p) (b := q) w ht (by cases p <;> cases q <;> simp at h ⊢)
  have h3 : (binOp .neq t (.pointer p) (.pointer q)).run P w = .ok (.bool (!(p.isNone && q.isNone))) w := by
    show (do pure (.bool (!(← Op.equal t (.pointer p) (.pointer q)))) : Sem Value).run P w = _
    simp only [Sem.run_bind, this, Result.andThen_ok, Sem.run_pure]
  have h4 : ∀ op : BinOp, (eqGuard op t x y (.pointer p) (.pointer q)).run P w = .ok () w := fun op => by cases op <;> rfl
  simp only [execOp, hp, hq, Sem.run_bind, h4, Result.andThen_ok]
  rw [h3]
  simp only [Result.andThen_ok, Sem.run_pure]
theorem T.nilCheck {d : D} (x : Operand) (h : isNilD d = some false) : Tri P N ⟨dst, .nilCheck x, ty, pos, af, gd⟩ [(x, d)] [] d [] := Tri.val fun M w G ρ hv => by
  obtain ⟨p, hp, h2⟩ := isNilD_rep h hv.1
  have hp : ρ x = .pointer p := hp
  cases p with
  | none => cases h2
  | some a =>
    refine ⟨.pointer (some a), by simp only [execOp, hp, Sem.run_pure], ?_⟩
    have := hv.1
    rw [hp] at this
    exact this

/-! structs of two strings -/
class TySS (P : Program) (t : TypeId) : Prop where
  ht : P.underlying t = some (.struct (P.fieldsOf t))
  hp : P.stoodInHeld t = false
  hg : P.eqGuardType P.depth t = false
  hf : ∃ f1 f2 : Field, (P.fieldsOf t).toList = [f1, f2] ∧ f1.name ≠ "_" ∧ f2.name ≠ "_" ∧ f1.offset = 0 ∧ f2.offset = 1 ∧ P.underlying f1.type = some .string ∧ P.underlying f2.type = some .string
theorem run_eqSS {t : TypeId} (h : TySS P t) (w : World) (a b c d : List UInt8) : (Op.equalIn 10000 t (.agg #[strV a, strV b]) (.agg #[strV c, strV d])).run P w = .ok (decide (a = c) && decide (b = d)) w := by
  obtain ⟨f1, f2, h1, n1, n2, o1, o2, u1, u2⟩ := h.hf
  have ag : ∀ f : Field, P.underlying f.type = some .string → aggOf P f.type = some false := fun f hf => by unfold aggOf; rw [hf]; rfl
  have hpart : ∀ (f : Field) (cs : Array Value) (v : Value), P.underlying f.type = some .string → cs[f.offset]? = some v → (part f.type cs f.offset).run P w = .ok v w := fun f cs v hf hc => by
    simp only [part, Sem.run_bind, run_isAgg (ag f hf), Result.andThen_ok, Bool.false_eq_true, if_false, hc, Sem.run_pure]
  rw [run_equalIn_struct w 9999 t _ _ h.ht h.hp, h1]
  simp only [Op.eqFields, n1, n2, ne_eq, not_false_eq_true, if_true, Sem.run_bind]
  rw [hpart f1 _ (strV a) u1 (by rw [o1]; rfl)]
  simp only [Result.andThen_ok]
  rw [hpart f1 _ (strV c) u1 (by rw [o1]; rfl)]
  simp only [Result.andThen_ok]
  rw [run_equalIn_string w 9998 _ _ _ u1]
  simp only [Result.andThen_ok, str_beq]
  by_cases hac : a = c
  · subst hac
    simp only [decide_true, Bool.not_true, Bool.false_eq_true, if_false, Sem.run_bind]
    rw [hpart f2 _ (strV b) u2 (by rw [o2]; rfl)]
    simp only [Result.andThen_ok]
    rw [hpart f2 _ (strV d) u2 (by rw [o2]; rfl)]
    simp only [Result.andThen_ok]
    rw [run_equalIn_string w 9998 _ _ _ u2]
    simp only [Result.andThen_ok, str_beq]
    by_cases hbd : b = d
    · subst hbd; simp
    · simp [hbd]
  · simp [hac]
theorem ss_rep {M : Nat → Prop} {w : World} {G : Cx} {a b : List UInt8} {u : Value} (h : Rep M w G (.agg [.flat (.string ⟨a.toArray⟩), .flat (.string ⟨b.toArray⟩)]) u) : u = .agg #[strV a, strV b] := by
  simp only [Rep, RepL] at h
  obtain ⟨vs, rfl, u1, us, rfl, rfl, u2, us2, rfl, rfl, rfl⟩ := h
  rfl
theorem T.eqlSS {t ty' : TypeId} {x y : Operand} {a b c d : List UInt8} (h : TySS P t) :
    Tri P N ⟨dst, .binOp .eql t x y ty', ty, pos, af, gd⟩ [(x, .agg [.flat (.string ⟨a.toArray⟩), .flat (.string ⟨b.toArray⟩)]), (y, .agg [.flat (.string ⟨c.toArray⟩), .flat (.string ⟨d.toArray⟩)])] [] (.flat (.bool (decide (a = c) && decide (b = d)))) [] := Tri.val fun M w G ρ hv => by
  have hp : ρ x = _ := ss_rep hv.1
  have hq : ρ y = _ := ss_rep hv.2.1
  refine ⟨.bool (decide (a = c) && decide (b = d)), ?_, by simp only [Rep]⟩
  simp only [execOp, hp, hq, Sem.run_bind, run_eqGuard_agg w .eql t x y _ _ h.hg, Result.andThen_ok, run_eql_struct, run_eqSS h, Sem.run_pure]
theorem T.neqSS {t ty' : TypeId} {x y : Operand} {a b c d : List UInt8} (h : TySS P t) :
    Tri P N ⟨dst, .binOp .neq t x y ty', ty, pos, af, gd⟩ [(x, .agg [.flat (.string ⟨a.toArray⟩), .flat (.string ⟨b.toArray⟩)]), (y, .agg [.flat (.string ⟨c.toArray⟩), .flat (.string ⟨d.toArray⟩)])] [] (.flat (.bool (!(decide (a = c) && decide (b = d))))) [] := Tri.val fun M w G ρ hv => by
  have hp : ρ x = _ := ss_rep hv.1
  have hq : ρ y = _ := ss_rep hv.2.1
  refine ⟨.bool (!(decide (a = c) && decide (b = d))), ?_, by simp only [Rep]⟩
  simp only [execOp, hp, hq, Sem.run_bind, run_eqGuard_agg w .neq t x y _ _ h.hg, Result.andThen_ok, run_neq_struct, run_eqSS h, Sem.run_pure]
end
end Go.Dm

set_option linter.unusedSimpArgs false
set_option linter.unusedVariables false
set_option linter.unusedSectionVars false
set_option maxHeartbeats 400000
namespace Go.Dm
open Go Go.RowKit Go.PP
variable [GlobW] [Rnd]

section
variable {P : Program} {N : Nat} {dst : Option Tmp} {ty : TypeId} {pos : String} {af : Array Edge} {gd : Option (Nat × Bool)}

theorem run_setObjM {w : World} {r : Nat} {es : Array MapEntry} {clock : Nat} (hr : w.heap[r]? = some (.map es clock)) (o' : Obj) : (setObj r o').run P w = .ok () { w with heap := w.heap.setIfInBounds r o' } := by
  simp [setObj, Sem.run, hr]
theorem run_getObjM {w : World} {r : Nat} {es : Array MapEntry} {clock : Nat} (hr : w.heap[r]? = some (.map es clock)) : (getObj r).run P w = .ok (.map es clock) w := by
  simp [getObj, Sem.run, hr]
/-- The first entry under a key, among string keys. -/
def lkM {α : Type} : List (List UInt8) → List α → List UInt8 → Option α
  | a :: ks, d :: ds, k => if k = a then some d else lkM ks ds k
  | _, _, _ => none
theorem bytes_beq (a b : List UInt8) : ((⟨a.toArray⟩ : ByteArray) == (⟨b.toArray⟩ : ByteArray)) = decide (a = b) := by rw [beq_toListBytes, str_beq]
theorem findNow_str (k : List UInt8) : ∀ (l : List (List UInt8)) (es : List MapEntry) (i : Nat), es.map (·.key) = l.map strV → ∃ r : Option (Nat × Value), Instr.findNow .string (strV k) es i = some r ∧ r.map (·.2) = lkM l (es.map (·.val)) k
  | [], [], i, _ => ⟨none, rfl, rfl⟩
  | a :: l, e :: es, i, h => by
    simp only [List.map_cons, List.cons.injEq] at h
    obtain ⟨r, h1, h2⟩ := findNow_str k l es (i + 1) h.2
    simp only [Instr.findNow, h.1, Instr.sameNow, strV, bytes_beq, List.map_cons, lkM]
    by_cases hk : k = a
    · exact ⟨some (i, e.val), by simp [hk], by simp [hk]⟩
    · exact ⟨r, by simp [hk, h1], by simp [hk, h2]⟩
  | [], _ :: _, _, h => by simp at h
  | _ :: _, [], _, h => by simp at h
theorem lkM_rep {M : Nat → Prop} {w : World} {G : Cx} (k : List UInt8) : ∀ (l : List (List UInt8)) (ds : List D) (vs : List Value), RepL M w G ds vs → (match lkM l ds k with | some d => ∃ v, lkM l vs k = some v ∧ Rep M w G d v | none => lkM l vs k = none)
  | [], ds, vs, h => by simp [lkM]
  | a :: l, [], vs, h => by simp only [RepL] at h; subst h; simp [lkM]
  | a :: l, d :: ds, vs, h => by
    simp only [RepL] at h
    obtain ⟨u, us, rfl, h2, h3⟩ := h
    simp only [lkM]
    by_cases hk : k = a
    · simp only [if_pos hk]; exact ⟨u, rfl, h2⟩
    · simp only [if_neg hk]; exact lkM_rep k l ds us h3
theorem lkM_none {α : Type} {k : List UInt8} : ∀ {l : List (List UInt8)} {ds : List α}, k ∉ l → lkM l ds k = none
  | [], _, _ => by simp [lkM]
  | a :: l, [], _ => by simp [lkM]
  | a :: l, d :: ds, h => by
    simp only [List.mem_cons, not_or] at h
    simp only [lkM, if_neg h.1]
    exact lkM_none h.2
theorem lkM_const {α : Type} (c : α) (k : List UInt8) : ∀ l : List (List UInt8), lkM l (l.map fun _ => c) k = if k ∈ l then some c else none
  | [] => rfl
  | a :: l => by
    simp only [List.map_cons, lkM, lkM_const c k l, List.mem_cons]
    by_cases h : k = a <;> simp [h]
theorem run_checkKey_str {t : TypeId} {v : Value} {b : Bool} (w : World) (ht : P.underlying t = some .string) : (Instr.checkKey b 10000 t v).run P w = .ok () w := by
  unfold Instr.checkKey
  simp only [Sem.run_bind, run_underlying ht, Result.andThen_ok, Sem.run_pure]
theorem T.makeMap (id : Nat) (t : TypeId) (hid : newId N id = true := by first | exact rfl | assumption | decide +kernel) :
    Tri P N ⟨dst, .makeMap t none, ty, pos, af, gd⟩ [] [(id, none)] (.mp id) [(id, some (.box [.keys []]))] := by
  refine ⟨?_⟩
  intro w0 M0 B0 s a w next Q h1 h2 hd ⟨g, hs⟩ hk
  have hex : (execOp a.eval ⟨dst, .makeMap t none, ty, pos, af, gd⟩).run P w = .ok (.value (.map (some w.heap.size))) (w.alloc (.map #[] 0)) := by
    simp only [execOp, Option.map_none, Instr.makeMap, Sem.run_bind, run_newObj, Result.andThen_ok, Sem.run_pure]
  refine opIn_val hex ?_
  have hno : lkE s.σ id = none := h2.1
  have hm : Fix w (w.alloc (.map #[] 0)) := (Mut.refl _ w).alloc _
  have hm' : Mut (fun b => blkOf g s.σ id = some b) w (w.alloc (.map #[] 0)) := hm.mono (fun _ _ e => e.elim)
  have hgrow : Grow (g, s.σ) (⟨fun k => if k = id then w.heap.size else g.blk k, g.row⟩, (id, some (.box [.keys []])) :: s.σ) :=
    ⟨fun k cs hc => by
      have hne : k ≠ id := fun e => by subst e; simp only at hc; rw [hno] at hc; cases hc
      exact ⟨⟨cs, by rw [lkE_cons, if_neg (fun e => hne e.symm)]; exact hc⟩, by simp [hne]⟩,
     fun k e n len cs hc => by
      have hne : k ≠ id := fun e => by subst e; simp only at hc; rw [hno] at hc; cases hc
      exact .inr ⟨e, n, len, cs, by rw [lkE_cons, if_neg (fun e => hne e.symm)]; exact hc, Nat.le_refl _, fun _ => rfl⟩,
     fun k hc => by
      have hne : k ≠ id := fun e => by subst e; simp only at hc; rw [hno] at hc; cases hc
      simp only at hc ⊢
      rw [lkE_cons, if_neg (fun e => hne e.symm)]; exact hc⟩
  refine hk _ _ ⟨⟨fun k => if k = id then w.heap.size else g.blk k, g.row⟩, hs.set1 (g' := ⟨fun k => if k = id then w.heap.size else g.blk k, g.row⟩) id (.box [.keys []]) (fun _ => hid) hm' (fun k hk => by simp [hk]) (fun k hk => rfl) hgrow ?_ ?_ hd ?_⟩
  · intro b hb
    simp only [blkOf, lkE_cons, if_pos, Option.some.injEq] at hb
    subst hb
    exact ⟨by simp, fun h => by omega⟩
  · intro M hM
    refine ⟨[undef], .map #[] 0, by simp only [if_pos]; exact heap_alloc_new w _, ?_, ?_⟩
    · simp only [RepL, Rep]; exact ⟨_, _, rfl, trivial, rfl⟩
    · unfold ObjIs keysOf
      exact ⟨#[], 0, rfl, rfl, rfl⟩
  · intro M hM
    simp only [Rep]
    exact ⟨_, _, _, rfl, by rw [lkE_cons, if_pos rfl], by simp⟩
theorem map_box {w0 : World} {M0 : Nat → Prop} {B0 : Bd} {g : Gh} {s : DS} {a : Act} {w : World} (hs : StG w0 M0 B0 N g s a w) {id : Nat} {ks : List Value} {ds : List D} (he : lkE s.σ id = some (.box (.keys ks :: ds))) :
    ∃ (u : Value) (es : Array MapEntry) (clock : Nat), w.heap[g.blk id]? = some (.map es clock) ∧ es.toList.map (·.key) = ks ∧ RepL (Mx M0 g s.σ) w (some (g, s.σ)) ds (es.toList.map (·.val)) := by
  obtain ⟨vs, o, h1, h2, h3⟩ := hs.ent id _ he
  unfold ObjIs keysOf at h3
  obtain ⟨es, clock, rfl, h4, h5⟩ := h3
  simp only [RepL] at h2
  obtain ⟨u, us, rfl, _, h6⟩ := h2
  simp only [List.tail_cons] at h5
  subst h5
  exact ⟨u, es, clock, h1, h4, h6⟩
theorem T.lookupStr {id tk te : Nat} {l : List (List UInt8)} {ds : List D} {k : List UInt8} {z : Value} {d : D} (t : TypeId) (x y : Operand) (ht : P.underlying t = some (.map tk te)) (hk : P.underlying tk = some .string) (hz : zeroT P te = some z) (h : (lkM l ds k).getD (.flat z) = d) :
    Tri P N ⟨dst, .lookup t x y false, ty, pos, af, gd⟩ [(x, .mp id), (y, .flat (.string ⟨k.toArray⟩))] [(id, some (.box (.keys (l.map strV) :: ds)))] d [] := Tri.read fun w0 M0 B0 g s a w hs hE hv => by
  obtain ⟨u, es, clock, h1, h2, h3⟩ := map_box hs hE.1
  have hx := hv.1
  simp only [Rep] at hx
  obtain ⟨g', σ', cs, hG, _, hx⟩ := hx
  cases hG
  obtain ⟨r, q1, q2⟩ := findNow_str k l es.toList 0 h2
  have h4 := lkM_rep k l ds _ h3
  have hcore : ∀ v : Value, (r.map (·.2)).getD z = v → (execOp a.eval ⟨dst, .lookup t x y false, ty, pos, af, gd⟩).run P w = .ok (.value v) w := fun v hv' => by
    have hy : a.eval y = strV k := hv.2.one
    simp only [execOp, Instr.lookup, Sem.run_bind, run_underlying ht, Result.andThen_ok, hx, run_getObjM h1, Sem.run_pure, hy, run_checkKey_str w hk, Instr.findKey, run_underlying hk, q1]
    cases r with
    | none => simp only [Sem.run_bind, run_zeroT hz, Result.andThen_ok, Sem.run_pure]; simp at hv'; subst hv'; rfl
    | some p => simp only [Sem.run_pure, Result.andThen_ok]; simp at hv'; subst hv'; rfl
  cases hl : lkM l ds k with
  | none =>
    rw [hl] at h4 h
    simp only at h4
    simp only [Option.getD_none] at h
    subst h
    exact ⟨z, w, hcore z (by rw [q2, h4]; rfl), Mut.refl _ w, by simp only [Rep]⟩
  | some d' =>
    rw [hl] at h4 h
    simp only at h4
    simp only [Option.getD_some] at h
    subst h
    obtain ⟨v, q3, q4⟩ := h4
    exact ⟨v, w, hcore v (by rw [q2, q3]; rfl), Mut.refl _ w, q4⟩
theorem T.mapPutStr {id tk te : Nat} {l : List (List UInt8)} {ds : List D} {k : List UInt8} {d : D} (t : TypeId) (x y v : Operand) (ht : P.underlying t = some (.map tk te)) (hk : P.underlying tk = some .string) (h : k ∉ l) :
    Tri P N ⟨dst, .mapUpdate t x y v, ty, pos, af, gd⟩ [(x, .mp id), (y, .flat (.string ⟨k.toArray⟩)), (v, d)] [(id, some (.box (.keys (l.map strV) :: ds)))] (.flat undef) [(id, some (.box (.keys ((l ++ [k]).map strV) :: (ds ++ [d]))))] := by
  refine ⟨?_⟩
  intro w0 M0 B0 s a w next Q h1 h2 hd ⟨g, hs⟩ hkk
  have hE := h2
  have hv := hs.vals h1
  have he := hE.1
  obtain ⟨u, es, clock, o1, o2, o3⟩ := map_box hs he
  have hx := hv.1
  simp only [Rep] at hx
  obtain ⟨g', σ', cs, hG, _, hx⟩ := hx
  cases hG
  have hx : a.eval x = .map (some (g.blk id)) := hx
  have hy : a.eval y = strV k := hv.2.one
  have hdv : Rep (Mx M0 g s.σ) w (some (g, s.σ)) d (a.eval v) := hv.2.2.1
  obtain ⟨r, q1, q2⟩ := findNow_str k l es.toList 0 o2
  rw [lkM_none h] at q2
  have hr : r = none := by cases r with | none => rfl | some p => cases q2
  subst hr
  let o' : Obj := .map (es.push { key := strV k, val := a.eval v, born := clock }) (clock + 1)
  let w' : World := { w with heap := w.heap.setIfInBounds (g.blk id) o' }
  have hex : (execOp a.eval ⟨dst, .mapUpdate t x y v, ty, pos, af, gd⟩).run P w = .ok .skip w' := by
    simp only [execOp, Instr.mapUpdate, Sem.run_bind, run_underlying ht, Result.andThen_ok, hx, run_getObjM o1, Sem.run_pure, hy, run_checkKey_str w hk, Instr.findKey, run_underlying hk, q1, run_setObjM o1]
    rfl
  refine opIn_skip hex ?_
  have hbo : blkOf g s.σ id = some (g.blk id) := by unfold blkOf; rw [he]
  have hlt : g.blk id < w.heap.size := (Array.getElem?_eq_some_iff.1 o1).1
  have hm : Mut (fun b => blkOf g s.σ id = some b) w w' := ⟨rfl, rfl, rfl, by simp [w'], fun b hb hn => by
    have : g.blk id ≠ b := fun e => hn (by rw [hbo, e])
    simp [w', Array.getElem?_setIfInBounds, this]⟩
  have hS : ∀ b, b < w.heap.size → blkOf g s.σ id = some b → Mx M0 g s.σ b := fun b _ hb => .inr ⟨id, hb⟩
  have hgr : Grow (g, s.σ) (g, (id, some (.box (.keys ((l ++ [k]).map strV) :: (ds ++ [d])))) :: s.σ) := ⟨fun k c1 hk => by
      by_cases e2 : id = k
      · subst e2; exact ⟨⟨_, by rw [lkE_cons, if_pos rfl]⟩, rfl⟩
      · exact ⟨⟨c1, by rw [lkE_cons, if_neg e2]; exact hk⟩, rfl⟩, fun k e1 n1 l1 c1 hk => by
      by_cases e2 : id = k
      · subst e2; simp only at hk; rw [he] at hk; cases hk
      · exact .inr ⟨e1, n1, l1, c1, by rw [lkE_cons, if_neg e2]; exact hk, Nat.le_refl _, fun _ => rfl⟩, fun k hk => by
      have hne : ¬ id = k := fun e1 => by subst e1; simp only at hk; rw [he] at hk; cases hk
      simp only at hk ⊢
      rw [lkE_cons, if_neg hne]; exact hk⟩
  refine hkk _ _ ⟨g, hs.set1 id (.box (.keys ((l ++ [k]).map strV) :: (ds ++ [d]))) (fun h0 => by rw [he] at h0; cases h0) hm (fun _ _ => rfl) (fun _ _ => rfl) hgr (fun b hb => ?_) (fun M hM => ?_) hd (fun M hM => by simp only [Rep])⟩
  · simp only [blkOf, lkE_cons, if_pos, Option.some.injEq] at hb
    subst hb
    exact ⟨Nat.lt_of_lt_of_le hlt hm.size, fun _ => hbo⟩
  · refine ⟨undef :: (es.toList.map (·.val) ++ [a.eval v]), o', ?_, ?_, ?_⟩
    · simp [w', Array.getElem?_setIfInBounds, hlt]
    · have h5 : RepL (Mx M0 g s.σ) w (some (g, s.σ)) (ds ++ [d]) (es.toList.map (·.val) ++ [a.eval v]) := RepL.append o3 (by simp only [RepL]; exact ⟨_, _, rfl, hdv, rfl⟩)
      have h6 := RepL.step (G := some _) (G' := some _) hgr hm hS hM _ _ h5
      simp only [RepL, Rep]
      exact ⟨_, _, rfl, trivial, h6⟩
    · unfold ObjIs keysOf
      exact ⟨_, _, rfl, by simp [o2], by simp⟩
/-- A function that stands for itself is a closure that holds nothing. -/
theorem Le.fn {f : Fn} : Le (.flat (.func f #[] #[])) (.clo f [] []) := fun M w G v _ h => by
  simp only [Rep, RepL] at h ⊢
  exact ⟨[], [], h, rfl, rfl⟩
/-- A string's bytes behind a row: append. -/
theorem T.appendStrB {id e L bytes : Nat} {z : Value} {cs : List D} {b : List UInt8} (t xt : TypeId) (x y : Operand) (ht : P.underlying t = some (.slice e)) (hxt : P.underlying xt = some .string) (hinfo : (P.info? e).map (fun i => (i.zero, i.size, i.bytes)) = some (some z, 1, bytes)) (hzs : z.cells.size = 1) (hbp : 0 < bytes)
    (hby : (L + b.length) * bytes ≤ 140737488355328) :
    Tri P N ⟨dst, .call { callee := .builtin .append, args := #[x, y], argTypes := #[t, xt] }, ty, pos, af, gd⟩ [(x, .own id L), (y, .flat (.string ⟨b.toArray⟩))] [(id, some (.row e 1 L cs))] (.own id (L + b.length)) [(id, some (.row e 1 (L + b.length) (cs ++ bD b)))] := by
  have := T.appendStr (P := P) (N := N) (dst := dst) (ty := ty) (pos := pos) (af := af) (gd := gd) (id := id) (L := L) (cs := cs) (b := ⟨b.toArray⟩) t xt x y ht hxt hinfo hzs hbp (by rw [bsz]; exact hby)
  rw [bsz] at this
  exact this
theorem ResL.two {fn : Func} {s : DS} {we : Sg} {f' : Fr} {t u : Tmp} {d e : D} (hr : fn.results = #[.tmp t, .tmp u]) (h1 : EsOk s.σ we we) (h2 : FsOk s.σ we s.f f') (hd : lkF f' t = d) (he : lkF f' u = e) : ResL P fn N s we (.tup [d, e]) :=
  ⟨f', h1, h2, fun w0 M0 B0 g a w hs => ⟨.tuple #[a.tmps.getD t undef, a.tmps.getD u undef], by simp [results, hr], by
    have q1 := hs.tm t
    have q2 := hs.tm u
    rw [hd] at q1
    rw [he] at q2
    simp only [Rep, RepL]
    exact ⟨_, rfl, _, _, rfl, q1, _, _, rfl, q2, rfl⟩⟩⟩
end
end Go.Dm
