/- A machine over data: slices made with more room; slices over boxes; numbers cut to a kind. No condition. -/
import Derived.Test.YtebbekdebanabaaDoorXMk

set_option linter.unusedSimpArgs false
set_option linter.unusedVariables false
set_option linter.unusedSectionVars false
set_option maxHeartbeats 400000
namespace Go.Dm
open Go Go.RowKit Go.PP
variable [GlobW] [Rnd]
section
variable {P : Program} {N : Nat} {dst : Option Tmp} {ty : TypeId} {pos : String} {af : Array Edge} {gd : Option (Nat × Bool)}
theorem Tri.makeR {o : Oper} {pf : List (Operand × D)} {id : Nat} {T n len cap : Nat} {cs : List D} (hid : newId N id = true) (hl1 : len ≤ cap) (hl2 : cap ≤ maxLen)
    (hrun : ∀ (M : Nat → Prop) (w : World) (G : Cx) (ρ : Operand → Value), Vals M w G ρ pf → ∃ (vs : List Value), (execOp ρ o).run P w = .ok (.value (.slice (some ⟨w.heap.size, 0, none⟩) len cap)) (w.alloc (.cells vs.toArray T)) ∧
      vs.length = cap * n ∧ RepL M w G cs (vs.take (len * n))) : Tri P N o pf [(id, none)] (.own id len) [(id, some (.row T n len cs))] := by
  refine ⟨?_⟩
  intro w0 M0 B0 s a w next Q h1 h2 hd ⟨g, hs⟩ hk
  obtain ⟨vs, hr, hlen, hrep⟩ := hrun _ w (some (g, s.σ)) a.eval (hs.vals h1)
  refine opIn_val hr ?_
  have hno : lkE s.σ id = none := h2.1
  have hbn : blkOf g s.σ id = none := by unfold blkOf; rw [hno]
  have hm : Fix w (w.alloc (.cells vs.toArray T)) := (Mut.refl _ w).alloc _
  have hm' : Mut (fun b => blkOf g s.σ id = some b) w (w.alloc (.cells vs.toArray T)) := hm.mono (fun _ _ e => e.elim)
  have hgrow : ∀ g' : Gh, (∀ k, k ≠ id → g'.blk k = g.blk k) → (∀ k, k ≠ id → g'.row k = g.row k) → Grow (g, s.σ) (g', (id, some (Ent.row T n len cs)) :: s.σ) := fun g' q1 q2 =>
    ⟨fun k cs hc => by
      have hne : k ≠ id := fun e => by subst e; simp only at hc; rw [hno] at hc; cases hc
      exact ⟨⟨cs, by rw [lkE_cons, if_neg (fun e => hne e.symm)]; exact hc⟩, q1 k hne⟩,
     fun k e n len cs hc => by
      have hne : k ≠ id := fun e => by subst e; simp only at hc; rw [hno] at hc; cases hc
      exact .inr ⟨e, n, len, cs, by rw [lkE_cons, if_neg (fun e => hne e.symm)]; exact hc, Nat.le_refl _, fun _ => q2 k hne⟩,
     fun k hc => by
      have hne : k ≠ id := fun e => by subst e; simp only at hc; rw [hno] at hc; cases hc
      simp only at hc ⊢
      rw [lkE_cons, if_neg (fun e => hne e.symm)]; exact hc⟩
  have hcap : len * n ≤ cap * n := Nat.mul_le_mul_right _ hl1
  refine hk _ _ ⟨⟨g.blk, fun k => if k = id then .slice (some ⟨w.heap.size, 0, none⟩) len cap else g.row k⟩, hs.set1 (g' := ⟨g.blk, fun k => if k = id then .slice (some ⟨w.heap.size, 0, none⟩) len cap else g.row k⟩) id (.row T n len cs) (fun _ => hid) hm' (fun k hk => rfl) (fun k hk => by simp [hk]) (hgrow _ (fun k hk => rfl) (fun k hk => by simp [hk])) ?_ ?_ hd ?_⟩
  · intro b hb
    simp only [blkOf, lkE_cons, if_pos, Value.ownBlock, Option.some.injEq] at hb
    subst hb
    exact ⟨by simp, fun h => by omega⟩
  · intro M hM
    refine ⟨vs.take (len * n), ?_, RepL.step (G := some _) (G' := some _) (hgrow ⟨g.blk, fun k => if k = id then .slice (some ⟨w.heap.size, 0, none⟩) len cap else g.row k⟩ (fun k hk => rfl) (fun k hk => by simp [hk])) hm (fun _ _ e => e.elim) hM cs _ hrep⟩
    simp only [if_pos]
    exact ⟨by rw [List.length_take]; omega, .inr ⟨w.heap.size, cap, vs.toArray, (0, 0), rfl, newBlock, .inl rfl, hl1, hl2, by simpa using hlen, by simp⟩⟩
  · intro M hM
    simp only [Rep]
    exact ⟨_, _, rfl, .inr ⟨T, n, len, cs, by rw [lkE_cons, if_pos rfl], Nat.le_refl _, fun _ => by simp⟩, _, _, rfl⟩
theorem made_rep {M : Nat → Prop} {w : World} {G : Cx} (z : Value) (n k : Nat) (h : k ≤ n) : RepL M w G (List.replicate k (.flat z)) ((madeCells #[z] n).toList.take k) := by
  refine RepL.of (by simp [size_madeCells]; omega) fun i d u h1 h2 => ?_
  have hd : d = .flat z := by
    rw [List.getElem?_replicate] at h1
    split at h1
    · cases h1; rfl
    · cases h1
  have hu : u = z := by
    have hi := (List.getElem?_eq_some_iff.1 h2).1
    simp [size_madeCells] at hi
    rw [List.getElem?_take, if_pos (by omega)] at h2
    simp [madeCells, show i < n by omega, Nat.mod_one] at h2
    exact h2.symm
  subst hd; subst hu
  simp only [Rep]
/-- A slice made with room: len and cap. -/
theorem T.makeSlC {e c bytes : Nat} {z : Value} {kl kc : IntKind} {lz cz : Int} {len : Nat} (id : Nat) (t : TypeId) (x y : Operand) (ht : P.underlying t = some (.slice e)) (hinfo : (P.info? e).map (fun i => (i.zero, i.size, i.bytes)) = some (some z, 1, bytes)) (hz1 : z.cells = #[z])
    (n1 : IsN lz len) (n2 : IsN cz c) (hl : len ≤ c) (hb : bytes * c ≤ 281474976710656) (hn : c ≤ maxLen) (hid : newId N id = true := by first | exact rfl | decide +kernel) :
    Tri P N ⟨dst, .makeSlice t x y, ty, pos, af, gd⟩ [(x, .flat (.int kl lz)), (y, .flat (.int kc cz))] [(id, none)] (.own id len) [(id, some (.row e 1 len (List.replicate len (.flat z))))] := by
  obtain ⟨rfl⟩ := n1; obtain ⟨rfl⟩ := n2
  refine Tri.makeR (n := 1) (T := e) hid hl hn fun M w G ρ hv => ?_
  obtain ⟨i, hi, hzz⟩ := Option.map_eq_some_iff.1 hinfo
  simp only [Prod.mk.injEq] at hzz
  obtain ⟨hz, hs, hb2⟩ := hzz
  have hb' : (i.bytes : Int) * (c : Int) ≤ 281474976710656 := by
    have h : ((i.bytes * c : Nat) : Int) ≤ 281474976710656 := by rw [hb2]; omega
    rwa [Int.natCast_mul] at h
  have hr := run_make (P := P) w t e i z ht hi hz kl kc len c (by omega) (by omega) hb' (by unfold maxLen at hn; omega)
  simp only [Int.toNat_natCast, hs, Nat.mul_one, hz1] at hr
  refine ⟨(madeCells #[z] c).toList, by simp only [execOp, hv.one, hv.2.one, Sem.run_bind, hr, Result.andThen_ok, Sem.run_pure, Array.toArray_toList], by simp [size_madeCells], ?_⟩
  rw [Nat.mul_one]
  exact made_rep z c len hl

/-! slices over boxes -/
theorem keysOf_repl (n : Nat) (z : Value) : keysOf (List.replicate n (.flat z)) = none := by cases n <;> rfl
theorem Tri.makeB {o : Oper} {pf : List (Operand × D)} {id : Nat} {T n : Nat} {cs : List D} (hid : newId N id = true) (hko : keysOf cs = none)
    (hrun : ∀ (M : Nat → Prop) (w : World) (G : Cx) (ρ : Operand → Value), Vals M w G ρ pf → ∃ (vs : List Value), (execOp ρ o).run P w = .ok (.value (.slice (some ⟨w.heap.size, 0, none⟩) n n)) (w.alloc (.cells vs.toArray T)) ∧
      RepL M w G cs vs) : Tri P N o pf [(id, none)] (.bsl id 0 n n) [(id, some (.box cs))] := by
  refine ⟨?_⟩
  intro w0 M0 B0 s a w next Q h1 h2 hd ⟨g, hs⟩ hk
  obtain ⟨vs, hr, hrep⟩ := hrun _ w (some (g, s.σ)) a.eval (hs.vals h1)
  refine opIn_val hr ?_
  have hno : lkE s.σ id = none := h2.1
  have hbn : blkOf g s.σ id = none := by unfold blkOf; rw [hno]
  have hm : Fix w (w.alloc (.cells vs.toArray T)) := (Mut.refl _ w).alloc _
  have hm' : Mut (fun b => blkOf g s.σ id = some b) w (w.alloc (.cells vs.toArray T)) := hm.mono (fun _ _ e => e.elim)
  have hgrow : ∀ g' : Gh, (∀ k, k ≠ id → g'.blk k = g.blk k) → (∀ k, k ≠ id → g'.row k = g.row k) → Grow (g, s.σ) (g', (id, some (Ent.box cs)) :: s.σ) := fun g' q1 q2 =>
    ⟨fun k cs hc => by
      have hne : k ≠ id := fun e => by subst e; simp only at hc; rw [hno] at hc; cases hc
      exact ⟨⟨cs, by rw [lkE_cons, if_neg (fun e => hne e.symm)]; exact hc⟩, q1 k hne⟩,
     fun k e n len cs hc => by
      have hne : k ≠ id := fun e => by subst e; simp only at hc; rw [hno] at hc; cases hc
      exact .inr ⟨e, n, len, cs, by rw [lkE_cons, if_neg (fun e => hne e.symm)]; exact hc, Nat.le_refl _, fun _ => q2 k hne⟩,
     fun k hc => by
      have hne : k ≠ id := fun e => by subst e; simp only at hc; rw [hno] at hc; cases hc
      simp only at hc ⊢
      rw [lkE_cons, if_neg (fun e => hne e.symm)]; exact hc⟩
  refine hk _ _ ⟨⟨fun k => if k = id then w.heap.size else g.blk k, g.row⟩, hs.set1 (g' := ⟨fun k => if k = id then w.heap.size else g.blk k, g.row⟩) id (.box cs) (fun _ => hid) hm' (fun k hk => by simp [hk]) (fun k hk => rfl) (hgrow _ (fun k hk => by simp [hk]) (fun k hk => rfl)) ?_ ?_ hd ?_⟩
  · intro b hb
    simp only [blkOf, lkE_cons, if_pos, Option.some.injEq] at hb
    subst hb
    exact ⟨by simp, fun h => by omega⟩
  · intro M hM
    refine ⟨vs, _, by simp only [if_pos]; exact newBlock, ?_, ObjIs.mk hko⟩
    exact RepL.step (G := some _) (G' := some _) (hgrow ⟨fun k => if k = id then w.heap.size else g.blk k, g.row⟩ (fun k hk => by simp [hk]) (fun k hk => rfl)) hm (fun _ _ e => e.elim) hM cs vs hrep
  · intro M hM
    simp only [Rep]
    exact ⟨_, _, cs, rfl, by rw [lkE_cons, if_pos rfl], by simp⟩
/-- The slot's made slice lies in a box. -/
class BoxAt (k id : Nat) : Prop where
theorem T.makeBsl {e n bytes : Nat} {z : Value} {kl kc : IntKind} {lz cz : Int} (id : Nat) (t : TypeId) (x y : Operand) (ht : P.underlying t = some (.slice e)) (hinfo : (P.info? e).map (fun i => (i.zero, i.size, i.bytes)) = some (some z, 1, bytes)) (hz1 : z.cells = #[z])
    (n1 : IsN lz n) (n2 : IsN cz n) (hb : bytes * n ≤ 281474976710656) (hn : n ≤ maxLen) (hid : newId N id = true := by first | exact rfl | decide +kernel) :
    Tri P N ⟨dst, .makeSlice t x y, ty, pos, af, gd⟩ [(x, .flat (.int kl lz)), (y, .flat (.int kc cz))] [(id, none)] (.bsl id 0 n n) [(id, some (.box (List.replicate n (.flat z))))] := by
  obtain ⟨rfl⟩ := n1; obtain ⟨rfl⟩ := n2
  refine Tri.makeB (T := e) hid (keysOf_repl _ _) fun M w G ρ hv => ?_
  have hr := run_make_row' (P := P) t e z bytes ht hinfo hz1 kl kc n hb (by unfold maxLen at hn; omega) w
  refine ⟨(madeCells #[z] n).toList, by simp only [execOp, hv.one, hv.2.one, Sem.run_bind, hr, Result.andThen_ok, Sem.run_pure, Array.toArray_toList], ?_⟩
  have := made_rep (M := M) (w := w) (G := G) z n n (Nat.le_refl _)
  rwa [List.take_of_length_le (by simp [size_madeCells])] at this
theorem T.indexBsl {id off len cap e i : Nat} {k : IntKind} {z : Int} (t : TypeId) (x y : Operand) (ht : P.underlying t = some (.slice e)) (hn : sizeOfT P e = some 1) (hz : IsN z i) (h1 : i < len) :
    Tri P N ⟨dst, .indexAddr t x y, ty, pos, af, gd⟩ [(x, .bsl id off len cap), (y, .flat (.int k z))] [] (.ref id (off + i)) [] := Tri.val fun M w G ρ hv => by
  obtain ⟨rfl⟩ := hz
  have h2 := hv.1
  have q2 := hv.2.one
  simp only [Rep] at h2
  obtain ⟨g', σ', cs0, hG, h3, h4⟩ := h2
  exact ⟨.pointer (some ⟨g'.blk id, off + i, none⟩), by simp only [execOp, h4, q2, Sem.run_bind, run_indexSl (P := P) (b := g'.blk id) (o := off) (len := len) (cap := cap) (k := k) (i := (i : Int)) w ht hn (Int.natCast_nonneg _) (by omega), Result.andThen_ok, Sem.run_pure, Int.toNat_natCast, Nat.mul_one], by simp only [Rep]; exact ⟨g', σ', cs0, hG, h3, rfl⟩⟩
theorem T.lenBsl {id off len cap e : Nat} (t : TypeId) (x : Operand) (ht : P.underlying t = some (.slice e)) :
    Tri P N ⟨dst, .call { callee := .builtin .len, args := #[x], argTypes := #[t] }, ty, pos, af, gd⟩ [(x, .bsl id off len cap)] [] (.flat (.int .i64 len)) [] := Tri.val fun M w G ρ hv => by
  have q1 := hv.1
  simp only [Rep] at q1
  obtain ⟨_, _, _, _, _, r1⟩ := q1
  exact ⟨_, run_lenSl w ρ r1 ht, by simp only [Rep]⟩
theorem T.cutBslH {id off len cap e h : Nat} {hi : Int} {k : IntKind} (t : TypeId) (x y : Operand) (ht : P.underlying t = some (.slice e)) (hn : sizeOfT P e = some 1) (n1 : IsN hi h) (h2 : h ≤ cap) (h0 : 0 < cap) :
    Tri P N ⟨dst, .slice t x none (some y) none, ty, pos, af, gd⟩ [(x, .bsl id off len cap), (y, .flat (.int k hi))] [] (.bsl id off h cap) [] := Tri.val fun M w G ρ hv => by
  obtain ⟨rfl⟩ := n1
  have q1 := hv.1
  have q2 := hv.2.one
  simp only [Rep] at q1
  obtain ⟨g', σ', cs0, hG, h3, r1⟩ := q1
  have hr := run_slice_h (P := P) w t (some ⟨g'.blk id, off, none⟩) len cap (by rw [P_elem ht]; exact ht) k h (by omega) (by omega)
  rw [P_elem ht, run_sizeOf hn] at hr
  simp only [Result.andThen_ok, Int.toNat_natCast] at hr
  refine ⟨.slice (some ⟨g'.blk id, off, none⟩) h cap, ?_, by simp only [Rep]; exact ⟨g', σ', cs0, hG, h3, rfl⟩⟩
  simp only [execOp, r1, q2, Option.map_none, Option.map_some, Sem.run_bind, run_cut (P := P) (n := 1) ht hr, Result.andThen_ok, Sem.run_pure]
  simp [sliced, show ¬ (cap = 0) by omega, add_off]
theorem T.cutBslL {id off len cap e l : Nat} {lo : Int} {k : IntKind} (t : TypeId) (x y : Operand) (ht : P.underlying t = some (.slice e)) (hn : sizeOfT P e = some 1) (n1 : IsN lo l) (h2 : l ≤ len) (h0 : l < cap) :
    Tri P N ⟨dst, .slice t x (some y) none none, ty, pos, af, gd⟩ [(x, .bsl id off len cap), (y, .flat (.int k lo))] [] (.bsl id (off + l) (len - l) (cap - l)) [] := Tri.val fun M w G ρ hv => by
  obtain ⟨rfl⟩ := n1
  have q1 := hv.1
  have q2 := hv.2.one
  simp only [Rep] at q1
  obtain ⟨g', σ', cs0, hG, h3, r1⟩ := q1
  have hr := run_slice_l (P := P) w t (some ⟨g'.blk id, off, none⟩) len cap (by rw [P_elem ht]; exact ht) k l (by omega) (by omega)
  rw [P_elem ht, run_sizeOf hn] at hr
  simp only [Result.andThen_ok, Int.toNat_natCast] at hr
  refine ⟨.slice (some ⟨g'.blk id, off + l, none⟩) (len - l) (cap - l), ?_, by simp only [Rep]; exact ⟨g', σ', cs0, hG, h3, rfl⟩⟩
  simp only [execOp, r1, q2, Option.map_none, Option.map_some, Sem.run_bind, run_cut (P := P) (n := 1) ht hr, Result.andThen_ok, Sem.run_pure]
  simp [sliced, show ¬ (cap = l) by omega, add_off]
theorem Vl.bsl {pe : Sg} {id off len cap : Nat} {cs : List D} (hm : fnd pe id = some (some (.box cs))) : Vl pe (.bsl id off len cap) (.bsl id off len cap) := fun M w g σ he _ v hv => by
  simp only [Rep] at hv ⊢
  obtain ⟨g', σ1, cs1, hG, h1, h2⟩ := hv
  cases hG
  exact ⟨g, pe, cs, rfl, fnd_lk hm, h2⟩
theorem Vs.bsl' {σ σ' : Sg} {id off len cap : Nat} {cs' : List D} {x : D} (hx : x = .bsl id off len cap) (h' : lkE σ' id = some (.box cs')) : Vs σ σ' x (.bsl id off len cap) := by
  subst hx
  intro w0 M0 B0 N g f a w hs hM v hv
  simp only [Rep] at hv ⊢
  obtain ⟨g', σ1, cs1, hG, h1, h2⟩ := hv
  cases hG
  exact ⟨g, σ', cs', rfl, h', h2⟩
/-- A slice over a box, shut. -/
theorem Vw.bslA {pe : Sg} {id off len cap : Nat} {cs cs' : List D} (hm : (id, some (.box cs)) ∈ pe) (hp : VwL pe cs cs') (hl : off + len ≤ cs'.length) (hlc : len ≤ cap) (hn : cs'.length ≤ 1000000000) (hk : keysOf cs = none := by first | rfl | assumption) : Vw pe (.bsl id off len cap) (.sl false 1 len ((cs'.drop off).take len)) := fun w0 M0 B0 N g s a w hs he v hv => by
  have hσ := he.mem _ hm
  simp only [Rep] at hv ⊢
  obtain ⟨g', σ', cs0, hG, h1, h2⟩ := hv
  cases hG
  simp only at hσ
  obtain ⟨vs, T0, o1, o2, o4⟩ := hs.ent id _ hσ
  obtain ⟨T0, rfl⟩ := o4.cells hk
  have o3 := VwL.rep hs he hp o2
  have hb : blkOf g s.σ id = some (g.blk id) := by unfold blkOf; rw [hσ]
  refine ⟨some ⟨g.blk id, off, none⟩, cap, h2, hlc, fun e => (by cases e), by rw [List.length_take, List.length_drop]; omega, by omega, ?_⟩
  refine .inr ⟨g.blk id, off, rfl, ?_, RepC.of fun i d hd => ?_⟩
  · rintro (hq | ⟨id', hq1, hq2⟩)
    · exact (hs.new id _ hb).2.2 hq
    · have := hs.sep id id' _ hb hq2
      subst this
      exact hq1 (keys_mem hm)
  · rw [List.getElem?_take] at hd
    split at hd
    · rw [List.getElem?_drop] at hd
      obtain ⟨u, hu, hr⟩ := o3.get _ hd
      exact ⟨u, by simp only [World.cell?, o1]; simpa using hu, hr⟩
    · cases hd

theorem IsN.lit (n : Nat) (h : Nat.ble n 340282366920938463463374607431768211456 = true) : IsN (@OfNat.ofNat Int n (@instOfNat n)) (@OfNat.ofNat Nat n (instOfNatNat n)) := ⟨rfl⟩
/-! places by numbers -/
theorem T.indexSlN {f : Bool} {n len e i : Nat} {cs : List D} {k : IntKind} {z : Int} (t : TypeId) (x y : Operand) (ht : P.underlying t = some (.slice e)) (hn : sizeOfT P e = some n) (hz : IsN z i) (h1 : i < len) (hp : 0 < n) :
    Tri P N ⟨dst, .indexAddr t x y, ty, pos, af, gd⟩ [(x, .sl f n len cs), (y, .flat (.int k z))] [] (.ptr cs (i * n)) [] := by
  obtain ⟨rfl⟩ := hz
  exact T.indexSl (i := (i : Int)) t x y ht hn (by omega) (by omega) hp
theorem T.indexOwnN {id L n e i : Nat} {cs : List D} {k : IntKind} {z : Int} (t : TypeId) (x y : Operand) (ht : P.underlying t = some (.slice e)) (hn : sizeOfT P e = some n) (hz : IsN z i) (h1 : i < L) :
    Tri P N ⟨dst, .indexAddr t x y, ty, pos, af, gd⟩ [(x, .own id L), (y, .flat (.int k z))] [(id, some (.row e n L cs))] (.elp id L (i * n)) [] := by
  obtain ⟨rfl⟩ := hz
  exact T.indexOwn (i := (i : Int)) t x y ht hn (by omega) (by omega)
theorem T.storeElpS {id L off n e en : Nat} {cs ds out : List D} {d : D} (t : TypeId) (x y : Operand) (hs : SplD cs off ds out) (hn : sizeOfT P t = some n) (hc : cellsD d = some ds) (hl : ds.length = n) (ho : oneL ds = true) (hle : off + n ≤ cs.length) :
    Tri P N ⟨dst, .store t x y, ty, pos, af, gd⟩ [(x, .elp id L off), (y, d)] [(id, some (.row e en L cs))] (.flat undef) [(id, some (.row e en L out))] := by
  rw [← hs.h]
  exact T.storeElp t x y hn hc hl ho hle
/-! a number cut to its kind -/
theorem wrap32 (n : Nat) : IntKind.u32.wrap (n : Int) = ((n % 4294967296 : Nat) : Int) := by rw [IntKind.wrap_u32]; omega
theorem wrap64 (n : Nat) : IntKind.u64.wrap (n : Int) = ((n % 18446744073709551616 : Nat) : Int) := by rw [IntKind.wrap_u64]; omega
theorem wrap8 (n : Nat) : IntKind.u8.wrap (n : Int) = ((n % 256 : Nat) : Int) := by rw [IntKind.wrap_u8]; omega
theorem T.conv32 {k : IntKind} {n : Nat} {z : Int} {u : TypeDesc} (s t : TypeId) (x : Operand) (hs : P.underlying s = some u) (ht : P.underlying t = some (.int .u32)) (hz : IsN z n) :
    Tri P N ⟨dst, .convert s t x, ty, pos, af, gd⟩ [(x, .flat (.int k z))] [] (.flat (.int .u32 ((n % 4294967296 : Nat) : Int))) [] := by
  obtain ⟨rfl⟩ := hz
  exact T.convI s t x hs ht (wrap32 n)
theorem T.shlN {k2 : IntKind} {a b : Int} {m n : Nat} (t ty' : TypeId) (x y : Operand) (n1 : IsN a m) (n2 : IsN b n) (hn : n ≤ 64) : Tri P N ⟨dst, .binOp .shl t x y ty', ty, pos, af, gd⟩ [(x, .flat (.int .u64 a)), (y, .flat (.int k2 b))] [] (.flat (.int .u64 ((m * 2 ^ n % 18446744073709551616 : Nat) : Int))) [] := by
  obtain ⟨rfl⟩ := n1; obtain ⟨rfl⟩ := n2
  exact T.shl (k := .u64) t ty' x y (by omega) (n64_shl m hn)
theorem n32_shl (a : Nat) {b : Nat} (hb : b ≤ 32) : IntKind.u32.wrap ((a : Int) * 2 ^ (min (b : Int).toNat IntKind.u32.bits)) = ((a * 2 ^ b % 4294967296 : Nat) : Int) := by
  have e : ((a : Int) * 2 ^ b) = ((a * 2 ^ b : Nat) : Int) := by rw [Int.natCast_mul, Int.natCast_pow]; rfl
  rw [Int.toNat_natCast, show min b IntKind.u32.bits = b from Nat.min_eq_left hb, e, wrap32]
theorem T.shlN32 {k2 : IntKind} {a b : Int} {m n : Nat} (t ty' : TypeId) (x y : Operand) (n1 : IsN a m) (n2 : IsN b n) (hn : n ≤ 32) : Tri P N ⟨dst, .binOp .shl t x y ty', ty, pos, af, gd⟩ [(x, .flat (.int .u32 a)), (y, .flat (.int k2 b))] [] (.flat (.int .u32 ((m * 2 ^ n % 4294967296 : Nat) : Int))) [] := by
  obtain ⟨rfl⟩ := n1; obtain ⟨rfl⟩ := n2
  exact T.shl (k := .u32) t ty' x y (by omega) (n32_shl m hn)
theorem T.conv8 {k : IntKind} {n : Nat} {z : Int} {u : TypeDesc} (s t : TypeId) (x : Operand) (hs : P.underlying s = some u) (ht : P.underlying t = some (.int .u8)) (hz : IsN z n) :
    Tri P N ⟨dst, .convert s t x, ty, pos, af, gd⟩ [(x, .flat (.int k z))] [] (.flat (.int .u8 ((n % 256 : Nat) : Int))) [] := by
  obtain ⟨rfl⟩ := hz
  exact T.convI s t x hs ht (wrap8 n)
theorem fill3 {n : Nat} {d d2 d3 : D} {cs cs2 cs3 base : List D} (h : cellsD d = some cs) (hl : cs.length = n) (h2 : cellsD d2 = some cs2) (hl2 : cs2.length = n) (h3 : cellsD d3 = some cs3) (hl3 : cs3.length = n) (hb : base.length = 3 * n) : fillD (fun i => some (i * n, n)) base [(0, d), (1, d2), (2, d3)] = some (cs ++ (cs2 ++ cs3)) := by
  simp only [fillD, h, h2, h3, Nat.zero_mul, Nat.zero_add, Nat.one_mul]
  have hs : (spliceD base 0 cs).length = base.length := splice_len (by omega)
  have hs2 : (spliceD (spliceD base 0 cs) n cs2).length = base.length := by rw [splice_len (by omega), hs]
  rw [if_pos ⟨hl, by omega⟩, if_pos ⟨hl2, by omega⟩, if_pos ⟨hl3, by omega⟩]
  congr 1
  unfold spliceD
  have e : n + n = 2 * n := by omega
  have t1 : List.take n cs = cs := List.take_of_length_le (by omega)
  simp [hl, hl2, hl3, List.take_append, List.drop_append, e, show 2 * n - n = n by omega, List.take_of_length_le (show cs.length ≤ 2 * n by omega), List.take_of_length_le (show cs2.length ≤ n by omega)]
  omega
theorem T.buildSl3 {n e : Nat} {z : Value} {cs cs2 cs3 : List D} {d d2 d3 : D} (t : TypeId) (x y u : Operand) (ht : P.underlying t = some (.slice e)) (hz : zeroT P e = some z) (hn : sizeOfT P e = some n) (hd : cellsD d = some cs) (hl : cs.length = n) (hd2 : cellsD d2 = some cs2) (hl2 : cs2.length = n) (hd3 : cellsD d3 = some cs3) (hl3 : cs3.length = n) (hs : n ≤ 1048576) (hp : persL (cs ++ (cs2 ++ cs3)) = true) :
    Tri P N ⟨dst, .buildSlice t 3 #[(0, x), (1, y), (2, u)], ty, pos, af, gd⟩ [(x, d), (y, d2), (u, d3)] [] (.sl true n 3 (cs ++ (cs2 ++ cs3))) [] :=
  T.buildSl t [(0, x, d), (1, y, d2), (2, u, d3)] ht hz hn (by omega) (by omega) (fun base hb => fill3 hd hl hd2 hl2 hd3 hl3 hb) hp (by simp; omega)
end
end Go.Dm
