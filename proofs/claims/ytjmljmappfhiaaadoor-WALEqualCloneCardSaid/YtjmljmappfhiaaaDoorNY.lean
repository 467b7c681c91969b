/- A machine over data: strings, bytes, words, pointers compared. No condition. -/
import Derived.Test.YtjmljmappfhiaaaDoorNX
import Derived.Lib.ConvBytes
import Derived.Laws.IdiomStrings
set_option linter.unusedSimpArgs false
set_option linter.unusedVariables false
set_option linter.unusedSectionVars false
set_option maxHeartbeats 400000
namespace Go.Dm
open Go Go.RowKit Go.PP
variable [GlobW]

theorem bsz (l : List UInt8) : (⟨l.toArray⟩ : ByteArray).size = l.length := by show l.toArray.size = _; simp
theorem bytes_inj {a b : ByteArray} (h : a.data.toList = b.data.toList) : a = b := by
  cases a; cases b
  congr 1
  exact Array.toList_inj.1 h
/-- A string's datum, and the cells of bytes. -/
abbrev strV (l : List UInt8) : Value := .string ⟨l.toArray⟩
def bD (l : List UInt8) : List D := l.map fun c => .flat (.int .u8 c.toNat)
theorem bD_append (a b : List UInt8) : bD (a ++ b) = bD a ++ bD b := List.map_append
theorem bD_len (a : List UInt8) : (bD a).length = a.length := List.length_map ..
theorem bD_pers (a : List UInt8) : persL (bD a) = true := by unfold bD; exact persL_map (fun _ => rfl) a
theorem bD_one (a : List UInt8) : oneL (bD a) = true := by unfold bD; exact oneL_map (fun _ => rfl) a
theorem bD_rep {M : Nat → Prop} {w : World} {G : Cx} : ∀ {l : List UInt8} {vs : List Value}, RepL M w G (bD l) vs → vs = l.map fun c => .int .u8 c.toNat
  | [], vs, h => by simp only [bD, List.map_nil, RepL] at h; simpa using h
  | c :: l, vs, h => by
    simp only [bD, List.map_cons, RepL, Rep] at h
    obtain ⟨u, us, rfl, rfl, h3⟩ := h
    rw [List.map_cons, bD_rep (l := l) h3]
theorem bD_mk {M : Nat → Prop} {w : World} {G : Cx} : ∀ (l : List UInt8), RepL M w G (bD l) (l.map fun c => .int .u8 c.toNat)
  | [] => by simp [bD, RepL]
  | c :: l => by simp only [bD, List.map_cons, RepL, Rep]; exact ⟨_, _, rfl, rfl, bD_mk l⟩

section
variable {P : Program} {N : Nat} {dst : Option Tmp} {ty : TypeId} {pos : String} {af : Array Edge} {gd : Option (Nat × Bool)}

/-! strings -/
theorem T.lenStr {l : List UInt8} (t : TypeId) (x : Operand) (ht : P.underlying t = some .string) :
    Tri P N ⟨dst, .call { callee := .builtin .len, args := #[x], argTypes := #[t] }, ty, pos, af, gd⟩ [(x, .flat (.string ⟨l.toArray⟩))] [] (.flat (.int .i64 l.length)) [] := Tri.val fun M w G ρ hv => by
  refine ⟨.int .i64 l.length, ?_, by simp only [Rep]⟩
  simp [execOp, resolve, invoke, builtin, Builtin.len_, Builtin.lenOf, run_underlying ht, hv.one, bsz, goInt]
theorem T.indexStr {l : List UInt8} {k : IntKind} {i : Int} {c : UInt8} (t : TypeId) (x y : Operand) (ht : P.underlying t = some .string) (h0 : 0 ≤ i) (h : l[i.toNat]? = some c) :
    Tri P N ⟨dst, .index t x y, ty, pos, af, gd⟩ [(x, .flat (.string ⟨l.toArray⟩)), (y, .flat (.int k i))] [] (.flat (.int .u8 c.toNat)) [] := Tri.val fun M w G ρ hv => by
  refine ⟨.int .u8 c.toNat, ?_, by simp only [Rep]⟩
  have hi : (⟨l.toArray⟩ : ByteArray)[i.toNat]? = some c := by
    obtain ⟨h1, h2⟩ := List.getElem?_eq_some_iff.1 h
    rw [getElem?_pos (⟨l.toArray⟩ : ByteArray) i.toNat (by rw [bsz]; exact h1)]
    simp only [Option.some.injEq]
    exact h2
  simp only [execOp, Instr.index, hv.one, hv.2.one, asIntOf, Sem.run_bind, Sem.run_pure, Result.andThen_ok, run_underlying ht, if_pos h0, hi]
theorem run_sliceStr {l : List UInt8} {t : TypeId} (w : World) (ht : P.underlying t = some .string) (lo hi : Option (IntKind × Nat)) (h1 : (lo.elim 0 (·.2)) ≤ (hi.elim l.length (·.2))) (h2 : (hi.elim l.length (·.2)) ≤ l.length) :
    (Instr.slice t (.string ⟨l.toArray⟩) (lo.map fun p => .int p.1 p.2) (hi.map fun p => .int p.1 p.2) none).run P w = .ok (.string ⟨((l.take (hi.elim l.length (·.2))).drop (lo.elim 0 (·.2))).toArray⟩) w := by
  have hx : ∀ a b : Nat, (⟨l.toArray⟩ : ByteArray).extract a b = ⟨((l.take b).drop a).toArray⟩ := fun a b => by
    apply bytes_inj
    simp [ByteArray.data_extract, List.drop_take]
  cases lo with
  | none =>
    cases hi with
    | none => simp [Instr.slice, run_underlying ht, Instr.sliceBounds, hx, bsz]
    | some q =>
      simp only [Option.elim] at h1 h2
      simp [Instr.slice, run_underlying ht, Instr.sliceBounds, Instr.sliceBound, asIntOf, hx, bsz, h2]
  | some p =>
    cases hi with
    | none =>
      simp only [Option.elim] at h1 h2
      simp [Instr.slice, run_underlying ht, Instr.sliceBounds, Instr.sliceBound, asIntOf, hx, bsz, h1]
    | some q =>
      simp only [Option.elim] at h1 h2
      simp [Instr.slice, run_underlying ht, Instr.sliceBounds, Instr.sliceBound, asIntOf, hx, bsz, h1, h2]
theorem sliceAt_str {t : TypeId} {b : ByteArray} {lo hi mx : Option Value} (w : World) (ht : P.underlying t = some .string) : (Instr.sliceAt t (.string b) lo hi mx).run P w = (Instr.slice t (.string b) lo hi mx).run P w := by
  simp [Instr.sliceAt, run_underlying ht]
theorem T.strHL {l : List UInt8} {k k2 : IntKind} {lo hi : Nat} (t : TypeId) (x y z : Operand) (ht : P.underlying t = some .string) (h1 : lo ≤ hi) (h2 : hi ≤ l.length) :
    Tri P N ⟨dst, .slice t x (some y) (some z) none, ty, pos, af, gd⟩ [(x, .flat (.string ⟨l.toArray⟩)), (y, .flat (.int k lo)), (z, .flat (.int k2 hi))] [] (.flat (.string ⟨((l.take hi).drop lo).toArray⟩)) [] := Tri.val fun M w G ρ hv => by
  refine ⟨.string ⟨((l.take hi).drop lo).toArray⟩, ?_, by simp only [Rep]⟩
  have := run_sliceStr (P := P) (l := l) w ht (some (k, lo)) (some (k2, hi)) h1 h2
  simp only [Option.map_some, Option.elim] at this
  simp only [execOp, hv.one, hv.2.one, hv.2.2.one, Option.map_some, Option.map_none, Sem.run_bind, sliceAt_str w ht, this, Result.andThen_ok, Sem.run_pure]
theorem T.strH {l : List UInt8} {k2 : IntKind} {hi : Nat} (t : TypeId) (x z : Operand) (ht : P.underlying t = some .string) (h2 : hi ≤ l.length) :
    Tri P N ⟨dst, .slice t x none (some z) none, ty, pos, af, gd⟩ [(x, .flat (.string ⟨l.toArray⟩)), (z, .flat (.int k2 hi))] [] (.flat (.string ⟨(l.take hi).toArray⟩)) [] := Tri.val fun M w G ρ hv => by
  refine ⟨.string ⟨(l.take hi).toArray⟩, ?_, by simp only [Rep]⟩
  have := run_sliceStr (P := P) (l := l) w ht none (some (k2, hi)) (Nat.zero_le _) h2
  simp only [Option.map_some, Option.map_none, Option.elim, List.drop_zero] at this
  simp only [execOp, hv.one, hv.2.one, Option.map_some, Option.map_none, Sem.run_bind, sliceAt_str w ht, this, Result.andThen_ok, Sem.run_pure]
theorem T.strL {l : List UInt8} {k : IntKind} {lo : Nat} (t : TypeId) (x y : Operand) (ht : P.underlying t = some .string) (h2 : lo ≤ l.length) :
    Tri P N ⟨dst, .slice t x (some y) none none, ty, pos, af, gd⟩ [(x, .flat (.string ⟨l.toArray⟩)), (y, .flat (.int k lo))] [] (.flat (.string ⟨(l.drop lo).toArray⟩)) [] := Tri.val fun M w G ρ hv => by
  refine ⟨.string ⟨(l.drop lo).toArray⟩, ?_, by simp only [Rep]⟩
  have := run_sliceStr (P := P) (l := l) w ht (some (k, lo)) none h2 (Nat.le_refl _)
  simp only [Option.map_some, Option.map_none, Option.elim, List.take_length] at this
  simp only [execOp, hv.one, hv.2.one, Option.map_some, Option.map_none, Sem.run_bind, sliceAt_str w ht, this, Result.andThen_ok, Sem.run_pure]
theorem run_strOp {op : BinOp} {a b : ByteArray} {v : Value} {t : TypeId} {x y : Operand} (w : World) (h : (Op.stringOp op a b).run P w = .ok v w) (hop : op ≠ .shl ∧ op ≠ .shr) (ρ : Operand → Value) (hx : ρ x = .string a) (hy : ρ y = .string b) (ty' : TypeId) :
    (execOp ρ ⟨dst, .binOp op t x y ty', ty, pos, af, gd⟩).run P w = .ok (.value v) w := by
  have h2 : (binOp op t (.string a) (.string b)).run P w = .ok v w := by
    cases op <;> first | exact h | (exact absurd rfl hop.1) | (exact absurd rfl hop.2)
  simp only [execOp, hx, hy, Sem.run_bind]
  have : (eqGuard op t x y (.string a) (.string b)).run P w = .ok () w := by
    unfold eqGuard; split <;> rfl
  rw [this]
  simp only [Result.andThen_ok, h2, Sem.run_pure]
theorem T.catStr {a b : List UInt8} (t ty' : TypeId) (x y : Operand) (h : a.length + b.length ≤ 9223372036854775807) :
    Tri P N ⟨dst, .binOp .add t x y ty', ty, pos, af, gd⟩ [(x, .flat (.string ⟨a.toArray⟩)), (y, .flat (.string ⟨b.toArray⟩))] [] (.flat (.string ⟨(a ++ b).toArray⟩)) [] := Tri.val fun M w G ρ hv =>
  ⟨.string ⟨(a ++ b).toArray⟩, run_strOp w (by
    have hx : (⟨a.toArray⟩ : ByteArray) ++ (⟨b.toArray⟩ : ByteArray) = ⟨(a ++ b).toArray⟩ := by
      apply bytes_inj
      simp
    have hs : ¬ (((⟨a.toArray⟩ : ByteArray).size + (⟨b.toArray⟩ : ByteArray).size : Nat) : Int) > IntKind.i64.max := by
      have : IntKind.i64.max = 9223372036854775807 := by decide
      rw [this, bsz, bsz]; omega
    simp only [Op.stringOp, if_neg hs, hx, Sem.run_pure]) ⟨by decide, by decide⟩ ρ hv.one hv.2.one ty', by simp only [Rep]⟩
theorem str_beq (a b : List UInt8) : ((⟨a.toArray⟩ : ByteArray).toList == (⟨b.toArray⟩ : ByteArray).toList) = decide (a = b) := by
  rw [ByteArray.toList_eq, ByteArray.toList_eq]
  simp only [List.toList_toArray]
  exact Bool.beq_eq_decide_eq a b
theorem T.eqlStr {a b : List UInt8} (t ty' : TypeId) (x y : Operand) :
    Tri P N ⟨dst, .binOp .eql t x y ty', ty, pos, af, gd⟩ [(x, .flat (.string ⟨a.toArray⟩)), (y, .flat (.string ⟨b.toArray⟩))] [] (.flat (.bool (decide (a = b)))) [] := Tri.val fun M w G ρ hv =>
  ⟨.bool (decide (a = b)), run_strOp w (by simp only [Op.stringOp, str_beq, Sem.run_pure]) ⟨by decide, by decide⟩ ρ hv.one hv.2.one ty', by simp only [Rep]⟩
theorem T.neqStr {a b : List UInt8} (t ty' : TypeId) (x y : Operand) :
    Tri P N ⟨dst, .binOp .neq t x y ty', ty, pos, af, gd⟩ [(x, .flat (.string ⟨a.toArray⟩)), (y, .flat (.string ⟨b.toArray⟩))] [] (.flat (.bool (decide (a ≠ b)))) [] := Tri.val fun M w G ρ hv =>
  ⟨.bool (decide (a ≠ b)), run_strOp w (by simp only [Op.stringOp, str_beq, Sem.run_pure, decide_not, ne_eq]) ⟨by decide, by decide⟩ ρ hv.one hv.2.one ty', by simp only [Rep]⟩

/-! bytes and strings -/
theorem T.convBS {l : List UInt8} {f : Bool} {e n len : Nat} {ds : List D} (s t : TypeId) (x : Operand) (hs : P.underlying s = some (.slice e)) (he : P.underlying e = some (.int .u8)) (ht : P.underlying t = some .string) (hn : n = 1) (hd : ds = bD l) :
    Tri P N ⟨dst, .convert s t x, ty, pos, af, gd⟩ [(x, .sl f n len ds)] [] (.flat (.string ⟨l.toArray⟩)) [] := Tri.val fun M w G ρ hv => by
  subst hd; subst hn
  have q1 := hv.1
  simp only [Rep] at q1
  obtain ⟨a, cap, r1, r2, r3, r4, r5, r6⟩ := q1
  rw [bD_len, Nat.mul_one] at r4
  refine ⟨.string ⟨l.toArray⟩, ?_, by simp only [Rep]⟩
  have hcs : (convert s t (ρ x)).run P w = .ok (.string ⟨l.toArray⟩) w := by
    rw [r1]
    cases a with
    | none =>
      have hl : l = [] := by
        rcases r6 with r6 | ⟨b, o, h, _⟩
        · exact List.eq_nil_of_length_eq_zero (by omega)
        · cases h
      subst hl
      simp [convert, run_underlying hs, run_underlying ht, run_underlying he, Conv.bytesToString]
      rfl
    | some ad =>
      rw [← r4]
      refine run_convert_bytes_back w s t e ad cap l hs he ht fun j hj => ?_
      rcases r6 with r6 | ⟨b, o, h, _, r8⟩
      · omega
      · cases h
        obtain ⟨u, q1, q2⟩ := r8.get j (d := .flat (.int .u8 l[j].toNat)) (by simp [bD, hj])
        simp only [Rep] at q2
        subst q2
        rw [add_off]; exact q1
  simp only [execOp, Sem.run_bind, hcs, Result.andThen_ok, Sem.run_pure]
theorem T.convOS {l : List UInt8} {id L e e' n : Nat} {ds : List D} (s t : TypeId) (x : Operand) (hs : P.underlying s = some (.slice e)) (he : P.underlying e = some (.int .u8)) (ht : P.underlying t = some .string) (hn : n = 1) (hd : ds = bD l) :
    Tri P N ⟨dst, .convert s t x, ty, pos, af, gd⟩ [(x, .own id L)] [(id, some (.row e' n L ds))] (.flat (.string ⟨l.toArray⟩)) [] := Tri.read fun w0 M0 B0 g s' a w hs' hE hv => by
  subst hd; subst hn
  obtain ⟨hu, vs, o1, o2⟩ := own_row hs' hE.1 hv.1
  have h3 := bD_rep o2
  subst h3
  have hl : l.length = L := by have := o1.1; simpa using this
  refine ⟨.string ⟨l.toArray⟩, w, ?_, Mut.refl _ w, by simp only [Rep]⟩
  have hcs : (convert s t (a.eval x)).run P w = .ok (.string ⟨l.toArray⟩) w := by
    rcases own_cells o1 with ⟨q1, q2⟩ | ⟨b, cap, q1, q2, q3, q4⟩
    · rw [q1]
      have hl : l = [] := List.eq_nil_of_length_eq_zero (by omega)
      subst hl
      simp [convert, run_underlying hs, run_underlying ht, run_underlying he, Conv.bytesToString]
      rfl
    · rw [q1, ← hl]
      exact run_convert_bytes_back w s t e ⟨b, 0, none⟩ cap l hs he ht fun j hj => by rw [add_off, Nat.zero_add]; exact q4 j _ (by simp [hj])
  simp only [execOp, Sem.run_bind, hcs, Result.andThen_ok, Sem.run_pure]

/-! rows made -/
theorem StG.newRow {w0 : World} {M0 : Nat → Prop} {B0 : Bd} {g : Gh} {s : DS} {a : Act} {w w' : World} (hs : StG w0 M0 B0 N g s a w) {id e n L : Nat} {cs : List D} {vs : List Value} {v : Value} (hid : newId N id = true) (hno : lkE s.σ id = none) (hm : Fix w w') (hown : OwnR w' e n v L vs)
    (hnew : ∀ b, v.ownBlock = some b → w.heap.size ≤ b) (hrep : RepL (Mx M0 g s.σ) w (some (g, s.σ)) cs vs) (hd : dstOk N dst = true) : St w0 M0 B0 N ⟨updF s.f dst (.own id L), [(id, some (.row e n L cs))] ++ s.σ⟩ (a.put dst v) w' := by
  have hm' : Mut (fun b => blkOf g s.σ id = some b) w w' := hm.mono (fun _ _ e => e.elim)
  have hgrow : Grow (g, s.σ) (⟨g.blk, fun k => if k = id then v else g.row k⟩, (id, some (.row e n L cs)) :: s.σ) :=
    ⟨fun k cs hc => by
      have hne : k ≠ id := fun e => by subst e; simp only at hc; rw [hno] at hc; cases hc
      exact ⟨⟨cs, by rw [lkE_cons, if_neg (fun e => hne e.symm)]; exact hc⟩, rfl⟩,
     fun k e n len cs hc => by
      have hne : k ≠ id := fun e => by subst e; simp only at hc; rw [hno] at hc; cases hc
      exact .inr ⟨e, n, len, cs, by rw [lkE_cons, if_neg (fun e => hne e.symm)]; exact hc, Nat.le_refl _, fun _ => by simp [hne]⟩,
     fun k hc => by
      have hne : k ≠ id := fun e => by subst e; simp only at hc; rw [hno] at hc; cases hc
      simp only at hc ⊢
      rw [lkE_cons, if_neg (fun e => hne e.symm)]; exact hc⟩
  obtain ⟨a5, c5, hv5⟩ : ∃ a c, v = .slice a L c := by
    rcases hown.2 with ⟨h, h0⟩ | ⟨g1, cap, cur, fz, h, _⟩
    · exact ⟨none, 0, by rw [h, h0]⟩
    · exact ⟨_, _, h⟩
  refine ⟨⟨g.blk, fun k => if k = id then v else g.row k⟩, hs.set1 (g' := ⟨g.blk, fun k => if k = id then v else g.row k⟩) id (.row e n L cs) (fun _ => hid) hm' (fun k hk => rfl) (fun k hk => by simp [hk]) hgrow ?_ ?_ hd ?_⟩
  · intro b hb
    simp only [blkOf, lkE_cons, if_pos] at hb
    refine ⟨?_, fun h => by have := hnew b hb; omega⟩
    rcases hown.2 with ⟨h, h0⟩ | ⟨g1, cap, cur, fz, h, h2, _⟩
    · rw [h] at hb; cases hb
    · rw [h] at hb
      simp only [Value.ownBlock, Option.some.injEq] at hb
      subst hb
      exact (Array.getElem?_eq_some_iff.1 h2).1
  · intro M hM
    exact ⟨vs, by simpa using hown, RepL.step (G := some _) (G' := some _) hgrow hm (fun _ _ e => e.elim) hM cs vs hrep⟩
  · intro M hM
    simp only [Rep]
    exact ⟨_, _, rfl, .inr ⟨e, n, L, cs, by rw [lkE_cons, if_pos rfl], Nat.le_refl _, fun _ => by simp⟩, a5, c5, hv5⟩
theorem T.convSB {l : List UInt8} {e cap : Nat} {u : TypeDesc} (id : Nat) (s t : TypeId) (x : Operand) (hs : P.underlying s = some u) (ht : P.underlying t = some (.slice e)) (he : P.underlying e = some (.int .u8)) (hl : l.length ≤ 140737488355328) (hid : newId N id = true := by first | exact rfl | assumption | decide +kernel) :
    Tri P N ⟨dst, .convert s t x, ty, pos, af, gd⟩ [(x, .flat (.string ⟨l.toArray⟩))] [(id, none)] (.own id l.length) [(id, some (.row e 1 l.length (bD l)))] := by
  refine ⟨?_⟩
  intro w0 M0 B0 s' a w next Q h1 h2 hd ⟨g, hs'⟩ hk
  have hv := hs'.vals h1
  have hr := Lib.run_convert_string_bytes (P := P) w s t e ⟨l.toArray⟩ hs ht he
  unfold Oper.wp
  have hex : (execOp a.eval ⟨dst, .convert s t x, ty, pos, af, gd⟩).run P w = .ok (.value (.slice (some ⟨w.heap.size, 0, none⟩) l.length (grownCap w l.length 0 e))) (Lib.bytesWorld w e ⟨l.toArray⟩) := by
    rw [bsz] at hr
    simp only [execOp, hv.one, Sem.run_bind, hr, Result.andThen_ok, Sem.run_pure]
  rw [hex]
  have hge := grownCap_ge w l.length 0 e
  have hcm : grownCap w l.length 0 e ≤ maxLen := grownCap_le_maxLen w l.length 0 e (by unfold maxLen; omega)
  have hsz : (Lib.bytesCells w e ⟨l.toArray⟩).size = grownCap w l.length 0 e := by simp [Lib.bytesCells, bsz]; omega
  refine hk _ _ (hs'.newRow hid h2.1 ?_ (vs := l.map fun c => .int .u8 c.toNat) ?_ ?_ (bD_mk l) hd)
  · refine ⟨?_, ?_, ?_, by rw [Lib.bytesWorld_size]; omega, fun k hk _ => Lib.bytesWorld_at_old w e _ k hk⟩ <;> simp [Lib.bytesWorld, World.freeze, World.alloc, World.drew, -World.alloc_eq, -World.drew_eq]
  · refine ⟨by simp, .inr ⟨w.heap.size, _, _, _, rfl, Lib.bytesWorld_at_new w e _, .inr (Nat.le_refl _), hge, hcm, by rw [hsz, Nat.mul_one], ?_⟩⟩
    simp [Lib.bytesCells]
  · intro b hb
    simp only [Value.ownBlock, Option.some.injEq] at hb
    omega

/-! ints of other kinds -/
theorem T.convI {k k2 : IntKind} {n m : Int} {u : TypeDesc} (s t : TypeId) (x : Operand) (hs : P.underlying s = some u) (ht : P.underlying t = some (.int k2)) (h : k2.wrap n = m) :
    Tri P N ⟨dst, .convert s t x, ty, pos, af, gd⟩ [(x, .flat (.int k n))] [] (.flat (.int k2 m)) [] := Tri.val fun M w G ρ hv =>
  ⟨.int k2 m, by simp [execOp, convert, run_underlying hs, run_underlying ht, hv.one, Conv.intToInt, h], by simp only [Rep]⟩
theorem T.and {k : IntKind} {a b c : Int} (t ty' : TypeId) (x y : Operand) (h : k.wrap ((BitVec.ofInt k.bits a &&& BitVec.ofInt k.bits b).toNat) = c) : Tri P N ⟨dst, .binOp .and t x y ty', ty, pos, af, gd⟩ [(x, .flat (.int k a)), (y, .flat (.int k b))] [] (.flat (.int k c)) [] :=
  T.bin t ty' x y fun w => by simp only [binOp, Op.intBits, ne_eq, not_true_eq_false, if_false, h, Sem.run_pure]
theorem T.or {k : IntKind} {a b c : Int} (t ty' : TypeId) (x y : Operand) (h : k.wrap ((BitVec.ofInt k.bits a ||| BitVec.ofInt k.bits b).toNat) = c) : Tri P N ⟨dst, .binOp .or t x y ty', ty, pos, af, gd⟩ [(x, .flat (.int k a)), (y, .flat (.int k b))] [] (.flat (.int k c)) [] :=
  T.bin t ty' x y fun w => by simp only [binOp, Op.intBits, ne_eq, not_true_eq_false, if_false, h, Sem.run_pure]
theorem T.xor {k : IntKind} {a b c : Int} (t ty' : TypeId) (x y : Operand) (h : k.wrap ((BitVec.ofInt k.bits a ^^^ BitVec.ofInt k.bits b).toNat) = c) : Tri P N ⟨dst, .binOp .xor t x y ty', ty, pos, af, gd⟩ [(x, .flat (.int k a)), (y, .flat (.int k b))] [] (.flat (.int k c)) [] :=
  T.bin t ty' x y fun w => by simp only [binOp, Op.intBits, ne_eq, not_true_eq_false, if_false, h, Sem.run_pure]
theorem T.andNot {k : IntKind} {a b c : Int} (t ty' : TypeId) (x y : Operand) (h : k.wrap ((BitVec.ofInt k.bits a &&& ~~~ BitVec.ofInt k.bits b).toNat) = c) : Tri P N ⟨dst, .binOp .andNot t x y ty', ty, pos, af, gd⟩ [(x, .flat (.int k a)), (y, .flat (.int k b))] [] (.flat (.int k c)) [] :=
  T.bin t ty' x y fun w => by simp only [binOp, Op.intBits, ne_eq, not_true_eq_false, if_false, h, Sem.run_pure]
theorem run_bin2 {op : BinOp} {k k2 : IntKind} {a b : Int} {v : Value} {t : TypeId} {x y : Operand} (w : World) (h : (binOp op t (.int k a) (.int k2 b)).run P w = .ok v w) (ρ : Operand → Value) (hx : ρ x = .int k a) (hy : ρ y = .int k2 b) (ty' : TypeId) :
    (execOp ρ ⟨dst, .binOp op t x y ty', ty, pos, af, gd⟩).run P w = .ok (.value v) w := by
  simp only [execOp, hx, hy, Sem.run_bind]
  have : (eqGuard op t x y (.int k a) (.int k2 b)).run P w = .ok () w := by
    unfold eqGuard; split <;> rfl
  rw [this]
  simp only [Result.andThen_ok, h, Sem.run_pure]
theorem T.shl {k k2 : IntKind} {a b c : Int} (t ty' : TypeId) (x y : Operand) (h0 : 0 ≤ b) (h : k.wrap (a * 2 ^ (min b.toNat k.bits)) = c) : Tri P N ⟨dst, .binOp .shl t x y ty', ty, pos, af, gd⟩ [(x, .flat (.int k a)), (y, .flat (.int k2 b))] [] (.flat (.int k c)) [] :=
  Tri.val fun M w G ρ hv => ⟨.int k c, run_bin2 w (by simp only [binOp, Op.shift, if_neg (show ¬ b < 0 by omega), h, Sem.run_pure]) ρ hv.one hv.2.one ty', by simp only [Rep]⟩
theorem T.shr {k k2 : IntKind} {a b c : Int} (t ty' : TypeId) (x y : Operand) (h0 : 0 ≤ b) (h : a.fdiv (2 ^ (min b.toNat k.bits)) = c) : Tri P N ⟨dst, .binOp .shr t x y ty', ty, pos, af, gd⟩ [(x, .flat (.int k a)), (y, .flat (.int k2 b))] [] (.flat (.int k c)) [] :=
  Tri.val fun M w G ρ hv => ⟨.int k c, run_bin2 w (by simp only [binOp, Op.shift, if_neg (show ¬ b < 0 by omega), h, Sem.run_pure]) ρ hv.one hv.2.one ty', by simp only [Rep]⟩
theorem T.neg {k : IntKind} {a c : Int} (t : TypeId) (x : Operand) (h : k.wrap (0 - a) = c) : Tri P N ⟨dst, .unOp .neg t x, ty, pos, af, gd⟩ [(x, .flat (.int k a))] [] (.flat (.int k c)) [] :=
  Tri.val fun M w G ρ hv => ⟨.int k c, by simp only [execOp, hv.one, Op.unary, Op.intArith, h, Sem.run_bind, Sem.run_pure, Result.andThen_ok], by simp only [Rep]⟩
end
end Go.Dm
