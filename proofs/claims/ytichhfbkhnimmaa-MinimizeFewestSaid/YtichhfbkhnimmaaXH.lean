/- A machine over data: stores, made and cut slices, calls, results. No condition. -/
import Derived.Test.YtichhfbkhnimmaaXG
import Derived.Deep.OwnRows

set_option linter.unusedSimpArgs false
set_option linter.unusedVariables false
set_option linter.unusedSectionVars false
set_option maxHeartbeats 400000
namespace Go.Dm
open Go Go.RowKit Go.PP
variable [GlobW] [Rnd]
section
variable {P : Program} {N : Nat} {dst : Option Tmp} {ty : TypeId} {pos : String} {af : Array Edge} {gd : Option (Nat × Bool)}
theorem run_storeAt {w : World} {b off n : Nat} {t : TypeId} {v : Value} {us vs : List Value} {T : TypeId} {fz : Nat × Nat} (hn : sizeOfT P t = some n) (hv : v.cells = us.toArray) (hl : us.length = n) (h1 : ∀ u ∈ us, u.oneCell' = true) (hb : w.heap[b]? = some (.cells vs.toArray T fz)) (hfz : fz = (0, 0) ∨ vs.length ≤ fz.1) (ho : off + us.length ≤ vs.length) :
    (Instr.storeAt t (.pointer (some ⟨b, off, none⟩)) v).run P w = .ok () (w.setCells b off us) := by
  have := run_storeCells_cells (P := P) b off us 0 w (fun j hj => by simp only [World.cell?, hb]; simp; omega) (fun j hj => frozen_no hb (by simpa using hfz) (by simp; omega)) h1
  simp only [Nat.add_zero] at this
  simp only [Instr.storeAt, Instr.sureAddr, storeVar, Sem.run_bind, Sem.run_pure, Result.andThen_ok, run_sizeOf hn, hv, List.size_toArray, hl, ne_eq, not_true_eq_false, if_false, this]
theorem T.storeRef {id off n : Nat} {cs ds : List D} {d : D} (t : TypeId) (x y : Operand) (hn : sizeOfT P t = some n) (hc : cellsD d = some ds) (hl : ds.length = n) (ho : oneL ds = true) (hle : off + n ≤ cs.length) (hk0 : keysOf cs = none := by first | rfl | assumption) :
    Tri P N ⟨dst, .store t x y, ty, pos, af, gd⟩ [(x, .ref id off), (y, d)] [(id, some (.box cs))] (.flat undef) [(id, some (.box (spliceD cs off ds)))] := by
  refine ⟨?_⟩
  intro w0 M0 B0 s a w next Q h1 h2 hd ⟨g, hs⟩ hk
  have he := h2.1
  have hvx := hs.eval x
  have hvy := hs.eval y
  rw [show evalD s.f x = .ref id off from h1.1] at hvx
  rw [show evalD s.f y = d from h1.2.1] at hvy
  simp only [Rep] at hvx
  obtain ⟨g', σ', cs0, hG, _, hx⟩ := hvx
  cases hG
  obtain ⟨vs, T, o1, o2, o4⟩ := hs.ent id _ he
  obtain ⟨T, rfl⟩ := o4.cells hk0
  obtain ⟨us, u1, u2⟩ := cellsD_rep hc hvy
  have hl1 := o2.length
  have hl2 := u2.length
  have hrun := run_storeAt (P := P) (w := w) (b := g.blk id) (off := off) (v := a.eval y) (us := us) (vs := vs) (T := T) hn u1 (by omega) (RepL.one ho u2) o1 (.inl rfl) (by omega)
  have hex : (execOp a.eval ⟨dst, .store t x y, ty, pos, af, gd⟩).run P w = .ok .skip (w.setCells (g.blk id) off us) := by
    simp only [execOp, hx, Sem.run_bind, hrun, Result.andThen_ok, Sem.run_pure]
  refine opIn_skip hex ?_
  have hbo : blkOf g s.σ id = some (g.blk id) := by unfold blkOf; rw [he]
  have hm : Mut (fun b => blkOf g s.σ id = some b) w (w.setCells (g.blk id) off us) := (setCells_mut (g.blk id) us off w).mono (fun b _ e => by rw [e]; exact hbo)
  have hS : ∀ b, b < w.heap.size → blkOf g s.σ id = some b → Mx M0 g s.σ b := fun b _ hb => .inr ⟨id, hb⟩
  have hgr : Grow (g, s.σ) (g, (id, some (.box (spliceD cs off ds))) :: s.σ) := ⟨fun k c1 hk => by
      by_cases e2 : id = k
      · subst e2; exact ⟨⟨_, by rw [lkE_cons, if_pos rfl]⟩, rfl⟩
      · exact ⟨⟨c1, by rw [lkE_cons, if_neg e2]; exact hk⟩, rfl⟩, fun k e1 n1 l1 c1 hk => by
      by_cases e2 : id = k
      · subst e2; simp only at hk; rw [he] at hk; cases hk
      · exact .inr ⟨e1, n1, l1, c1, by rw [lkE_cons, if_neg e2]; exact hk, Nat.le_refl _, fun _ => rfl⟩, fun k hk => by
      have hne : ¬ id = k := fun e1 => by subst e1; simp only at hk; rw [he] at hk; cases hk
      simp only at hk ⊢
      rw [lkE_cons, if_neg hne]; exact hk⟩
  refine hk _ _ ⟨g, hs.set1 id (.box (spliceD cs off ds)) (fun h0 => by rw [he] at h0; cases h0) hm (fun _ _ => rfl) (fun _ _ => rfl) hgr (fun b hb => ?_) (fun M hM => ?_) hd (fun M hM => by simp only [Rep])⟩
  · simp only [blkOf, lkE_cons, if_pos, Option.some.injEq] at hb
    subst hb
    exact ⟨Nat.lt_of_lt_of_le (Array.getElem?_eq_some_iff.1 o1).1 hm.size, fun _ => hbo⟩
  · exact ⟨_, _, setCells_heap _ T us vs off w o1 (by omega), RepL.splice (RepL.step (G := some _) (G' := some _) hgr hm hS hM cs vs o2) (RepL.step (G := some _) (G' := some _) hgr hm hS hM ds us u2), ObjIs.mk (keysOf_splice hk0 ho)⟩
theorem T.storeElp {id L off n e en : Nat} {cs ds : List D} {d : D} (t : TypeId) (x y : Operand) (hn : sizeOfT P t = some n) (hc : cellsD d = some ds) (hl : ds.length = n) (ho : oneL ds = true) (hle : off + n ≤ cs.length) :
    Tri P N ⟨dst, .store t x y, ty, pos, af, gd⟩ [(x, .elp id L off), (y, d)] [(id, some (.row e en L cs))] (.flat undef) [(id, some (.row e en L (spliceD cs off ds)))] := by
  refine ⟨?_⟩
  intro w0 M0 B0 s a w next Q h1 h2 hd ⟨g, hs⟩ hk
  have he := h2.1
  have hvx := hs.eval x
  have hvy := hs.eval y
  rw [show evalD s.f x = .elp id L off from h1.1] at hvx
  rw [show evalD s.f y = d from h1.2.1] at hvy
  simp only [Rep] at hvx
  obtain ⟨g', σ', hG, h3, _⟩ := hvx
  cases hG
  simp only at he
  obtain ⟨b, off0, l0, c0, h6, hx⟩ := (row_at he h3).2 rfl
  obtain ⟨vs, o1, o2⟩ := hs.ent id _ he
  obtain ⟨us, u1, u2⟩ := cellsD_rep hc hvy
  have hl1 := o2.length
  have hl2 := u2.length
  have o1' := o1
  rcases o1.2 with ⟨q1, q2⟩ | ⟨b', off', cap, cur, fz, q1, q3, q2, q4, q5, q6, q7⟩
  · rw [q1] at h6; cases h6
  rw [q1] at h6
  simp only [Value.slice.injEq, Option.some.injEq, Addr.mk.injEq, and_true] at h6
  obtain ⟨⟨rfl, rfl⟩, -, -⟩ := h6
  have hcl : off' + L * en ≤ cur.toList.length := by simp; exact Nat.le_trans (Nat.add_le_add_left (Nat.mul_le_mul_right _ q4) _) q6
  have hvl := o1.1
  have q3' : w.heap[b']? = some (.cells cur.toList.toArray e fz) := by simpa using q3
  have hrun := run_storeAt (P := P) (w := w) (b := b') (off := off' + off) (v := a.eval y) (us := us) (vs := cur.toList) (T := e) hn u1 (by omega) (RepL.one ho u2) q3' (by simpa using q2) (by omega)
  have hex : (execOp a.eval ⟨dst, .store t x y, ty, pos, af, gd⟩).run P w = .ok .skip (w.setCells b' (off' + off) us) := by
    simp only [execOp, hx, Sem.run_bind, hrun, Result.andThen_ok, Sem.run_pure]
  refine opIn_skip hex ?_
  have hob : (g.row id).ownBlock = some b' := by rw [q1]; rfl
  have hm : Mut (fun b => (g.row id).ownBlock = some b) w (w.setCells b' (off' + off) us) := (setCells_mut b' us (off' + off) w).mono (fun b _ e => by rw [e]; exact hob)
  have hS : ∀ b, b < w.heap.size → (g.row id).ownBlock = some b → Mx M0 g s.σ b := fun b _ hb => .inr ⟨id, by unfold blkOf; rw [he]; exact hb⟩
  have hgr : Grow (g, s.σ) (⟨g.blk, fun k => if k = id then g.row id else g.row k⟩, (id, some (.row e en L (spliceD cs off ds))) :: s.σ) := ⟨fun k c1 hk => by
      by_cases e2 : id = k
      · subst e2; simp only at hk; rw [he] at hk; cases hk
      · exact ⟨⟨c1, by rw [lkE_cons, if_neg e2]; exact hk⟩, rfl⟩, fun k e1 n1 l1 c1 hk => by
      by_cases e2 : id = k
      · subst e2
        simp only at hk
        rw [he] at hk; cases hk
        exact .inr ⟨e, en, L, _, by rw [lkE_cons, if_pos rfl], Nat.le_refl _, fun _ => by simp⟩
      · exact .inr ⟨e1, n1, l1, c1, by rw [lkE_cons, if_neg e2]; exact hk, Nat.le_refl _, fun _ => by simp [show ¬ k = id from fun e => e2 e.symm]⟩, fun k hk => by
      have hne : ¬ id = k := fun e1 => by subst e1; simp only at hk; rw [he] at hk; cases hk
      simp only at hk ⊢
      rw [lkE_cons, if_neg hne]; exact hk⟩
  refine hk _ _ ⟨_, hs.row (v' := g.row id) (vs' := spliceD vs off us) (L' := L) (cs' := spliceD cs off ds) he hm (Nat.le_refl _) (fun _ => rfl) ?_ (fun b hb _ => hb) (fun M hM => ?_) hd (fun M hM => by simp only [Rep])⟩
  · refine ⟨by rw [splice_len (by omega)]; exact hvl, .inr ⟨b', off', cap, (spliceD cur.toList (off' + off) us).toArray, fz, q1, setCells_heap b' e us cur.toList (off' + off) w q3' (by omega), by simpa [splice_len (show off' + off + us.length ≤ cur.toList.length by omega)] using q2, q4, q5, by simpa [splice_len (show off' + off + us.length ≤ cur.toList.length by omega)] using q6, ?_⟩⟩
    apply List.ext_getElem?
    intro k
    rw [List.toList_toArray, List.getElem?_take, List.getElem?_drop, splice_get (by omega), splice_get (by omega)]
    have hcv : ∀ k, k < L * en → cur.toList[off' + k]? = vs[k]? := fun k hk => by
      rw [← q7, List.getElem?_take, if_pos hk, List.getElem?_drop]
    by_cases hk : k < L * en
    · rw [if_pos hk]
      by_cases h1 : k < off
      · rw [if_pos (by omega), if_pos h1, hcv k hk]
      · rw [if_neg (by omega), if_neg h1]
        by_cases h2 : k < off + us.length
        · rw [if_pos (by omega), if_pos h2]; congr 1; omega
        · rw [if_neg (by omega), if_neg h2, hcv k hk]
    · rw [if_neg hk, if_neg (by omega), if_neg (by omega), List.getElem?_eq_none (by omega)]
  · exact RepL.splice (RepL.step (G := some _) (G' := some _) hgr hm hS hM cs vs o2) (RepL.step (G := some _) (G' := some _) hgr hm hS hM ds us u2)
theorem T.makeSl {e n bytes : Nat} {z : Value} {kl kc : IntKind} (id : Nat) (t : TypeId) (x y : Operand) (ht : P.underlying t = some (.slice e)) (hinfo : (P.info? e).map (fun i => (i.zero, i.size, i.bytes)) = some (some z, 1, bytes)) (hz1 : z.cells = #[z])
    (hb : bytes * n ≤ 281474976710656) (hn : n ≤ maxLen) (hid : newId N id = true := by first | exact rfl | decide +kernel) :
    Tri P N ⟨dst, .makeSlice t x y, ty, pos, af, gd⟩ [(x, .flat (.int kl n)), (y, .flat (.int kc n))] [(id, none)] (.own id n) [(id, some (.row e 1 n (List.replicate n (.flat z))))] :=
  Tri.make hid fun M w G ρ hv => by
    have hr := run_make_row' (P := P) t e z bytes ht hinfo hz1 kl kc n hb (by unfold maxLen at hn; omega) w
    refine ⟨_, (madeCells #[z] n).toList, e, by simp only [execOp, hv.one, hv.2.one, Sem.run_bind, hr, Result.andThen_ok, Sem.run_pure, Array.toArray_toList], .inr ⟨1, n, _, rfl, rfl, rfl, by simp [size_madeCells], hn, ?_⟩⟩
    refine RepL.of (by simp [size_madeCells]) fun i d u h1 h2 => ?_
    have hd : d = .flat z := by
      rw [List.getElem?_replicate] at h1
      split at h1
      · cases h1; rfl
      · cases h1
    have hu : u = z := by
      have hi := (List.getElem?_eq_some_iff.1 h2).1
      simp [size_madeCells] at hi
      simp [madeCells, hi, Nat.mod_one] at h2
      exact h2.symm
    subst hd; subst hu
    simp only [Rep]
theorem P_elem {t e : TypeId} (ht : P.underlying t = some (.slice e)) : P.elem t = e := by simp [Program.elem, ht]
theorem run_cut {t e : TypeId} {n : Nat} {w : World} {v : Value} {lo hi : Option Value} {r : Value} (ht : P.underlying t = some (.slice e)) (h : (Instr.slice t v lo hi none).run P w = .ok r w) : (Instr.sliceAt t v lo hi none).run P w = .ok r w := by
  rw [run_sliceAt_slice (P := P) w t v lo hi none (by rw [P_elem ht]; exact ht)]; exact h
def Enters (P : Program) (k : FuncId) : Prop := ∀ (args : Array Value) (w : World), (callFunc k args).run P w = .ok (.enter k args) w
theorem vals_repL {M : Nat → Prop} {w : World} {G : Cx} {ρ : Operand → Value} : ∀ {pf : List (Operand × D)}, Vals M w G ρ pf → RepL M w G (pf.map (·.2)) (pf.map fun p => ρ p.1)
  | [], _ => by simp [RepL]
  | p :: r, h => by simp only [List.map_cons, RepL]; exact ⟨_, _, rfl, h.1, vals_repL h.2⟩
theorem Tri.calls {o : Oper} {k : FuncId} {pf : List (Operand × D)} {pe : Sg} {d : D} (hex : ∀ (w0 : World) (M0 : Nat → Prop) (B0 : Bd) (g : Gh) (s : DS) (a : Act) (w : World), StG w0 M0 B0 N g s a w → Ens s.σ pe → Vals (Mx M0 g s.σ) w (some (g, s.σ)) a.eval pf →
    ∃ args : Array Value, (execOp a.eval o).run P w = .ok (.enter k args) w ∧ Calls P k args w (fun e w' => ∃ v, e = .returned v ∧ Rep (Mx M0 g s.σ) w' (some (g, s.σ)) d v ∧ Fix w w')) : Tri P N o pf pe d [] := by
  refine ⟨?_⟩
  intro w0 M0 B0 s a w next Q h1 h2 hd ⟨g, hs⟩ hk
  obtain ⟨args, hr, hc⟩ := hex w0 M0 B0 g s a w hs h2 (hs.vals h1)
  refine opIn_enter hr ?_
  exact hc.mono fun e w' ⟨v, q1, q2, q3⟩ => by subst q1; exact hk _ _ ⟨g, hs.pure q3 hd q2⟩
theorem run_callS {k : FuncId} {ar : List Operand} {ts : Array TypeId} (he : Enters P k) (ρ : Operand → Value) (hρ : ρ (.func k) = .func (.func k) #[] #[]) (w : World) :
    (execOp ρ ⟨dst, .call { callee := .value (.func k), args := ar.toArray, argTypes := ts }, ty, pos, af, gd⟩).run P w = .ok (.enter k (ar.map ρ).toArray) w := by
  simp only [execOp, resolve, hρ, Deferred.ofValue, Sem.run_bind, Sem.run_pure, Result.andThen_ok, invoke, List.map_toArray]
  have := he ((ar.map ρ).toArray) w
  simpa using this
theorem T.call {k : FuncId} {ar : List Operand} {ts : Array TypeId} {ds ds' : List D} {d : D} (he : Enters P k) (hf : DFun P k ds d) (hl : ar.length = ds'.length) (hp : persL ds' = true) (hle : LeL ds' ds) :
    Tri P N ⟨dst, .call { callee := .value (.func k), args := ar.toArray, argTypes := ts }, ty, pos, af, gd⟩ (ar.zip ds') [] d [] := Tri.calls (k := k) fun w0 M0 B0 g s a w hs _ hv => by
  refine ⟨_, run_callS he a.eval rfl w, ?_⟩
  have h1 := vals_repL hv
  rw [show (ar.zip ds').map (·.2) = ds' from by rw [List.map_snd_zip (by omega)], show ((ar.zip ds').map fun p => a.eval p.1) = ar.map a.eval from by rw [show (fun p : Operand × D => a.eval p.1) = a.eval ∘ Prod.fst from rfl, ← List.map_map, List.map_fst_zip (by omega)]] at h1
  exact (hf.go _ w _ hs.mlt (LeL.rep hs.mlt hle (RepL.down ds' _ hp h1)) hs.glw).mono fun e w' ⟨v, q1, q2, q3⟩ => ⟨v, q1, q2.up, q3⟩
theorem T.callV {k : FuncId} {ar : List Operand} {ts : Array TypeId} {ds ds' : List D} {d : D} (pe : Sg) (he : Enters P k) (hf : DFun P k ds d) (hl : ar.length = ds'.length) (hp : VwL pe ds' ds) (hd : noMem d = true) :
    Tri P N ⟨dst, .call { callee := .value (.func k), args := ar.toArray, argTypes := ts }, ty, pos, af, gd⟩ (ar.zip ds') pe d [] := Tri.calls (k := k) fun w0 M0 B0 g s a w hs hpe hv => by
  refine ⟨_, run_callS he a.eval rfl w, ?_⟩
  have h1 := vals_repL hv
  rw [show (ar.zip ds').map (·.2) = ds' from by rw [List.map_snd_zip (by omega)], show ((ar.zip ds').map fun p => a.eval p.1) = ar.map a.eval from by rw [show (fun p : Operand × D => a.eval p.1) = a.eval ∘ Prod.fst from rfl, ← List.map_map, List.map_fst_zip (by omega)]] at h1
  exact (hf.go _ w _ (fun b hb => hs.mlt b hb.sub) (VwL.rep hs hpe hp h1) hs.glw).mono fun e w' ⟨v, q1, q2, q3⟩ => ⟨v, q1, q2.noMem _ _ hd, q3⟩
theorem T.callC {k : FuncId} {x : Operand} {ar : List Operand} {ts : Array TypeId} {first cap ds ds' : List D} {d : D} (pe : Sg) (he : Enters P k) (hf : DFun P k ds d) (hl : ar.length = ds'.length) (hp : VwL pe (first ++ ds' ++ cap) ds) (hd : noMem d = true) :
    Tri P N ⟨dst, .call { callee := .value x, args := ar.toArray, argTypes := ts }, ty, pos, af, gd⟩ ((x, .clo (.func k) first cap) :: ar.zip ds') pe d [] := Tri.calls (k := k) fun w0 M0 B0 g s a w hs hpe hv => by
  have h0 := hv.1
  simp only [Rep] at h0
  obtain ⟨fs, us, hx, hf1, hc1⟩ := h0
  have hrun : (execOp a.eval ⟨dst, .call { callee := .value x, args := ar.toArray, argTypes := ts }, ty, pos, af, gd⟩).run P w = .ok (.enter k (fs ++ ar.map a.eval ++ us).toArray) w := by
    simp only [execOp, resolve, hx, Deferred.ofValue, Sem.run_bind, Sem.run_pure, Result.andThen_ok, invoke, List.map_toArray]
    have := he ((fs ++ ar.map a.eval ++ us).toArray) w
    simpa using this
  refine ⟨_, hrun, ?_⟩
  have h1 := vals_repL hv.2
  rw [show (ar.zip ds').map (·.2) = ds' from by rw [List.map_snd_zip (by omega)], show ((ar.zip ds').map fun p => a.eval p.1) = ar.map a.eval from by rw [show (fun p : Operand × D => a.eval p.1) = a.eval ∘ Prod.fst from rfl, ← List.map_map, List.map_fst_zip (by omega)]] at h1
  exact (hf.go _ w _ (fun b hb => hs.mlt b hb.sub) (VwL.rep hs hpe hp (RepL.append (RepL.append hf1 h1) hc1)) hs.glw).mono fun e w' ⟨v, q1, q2, q3⟩ => ⟨v, q1, q2.noMem _ _ hd, q3⟩
theorem T.makeFunc {k : Fn} {fs cs : List Operand} {fd cd : List D} (hl : fs.length = fd.length) (hl2 : cs.length = cd.length) :
    Tri P N ⟨dst, .makeFunc k fs.toArray cs.toArray, ty, pos, af, gd⟩ (fs.zip fd ++ cs.zip cd) [] (.clo k fd cd) [] := Tri.val fun M w G ρ hv => by
  have h1 := vals_repL hv
  have hz : ∀ {ar : List Operand} {ds : List D}, ar.length = ds.length → (ar.zip ds).map (·.2) = ds ∧ ((ar.zip ds).map fun p => ρ p.1) = ar.map ρ := fun {ar ds} h => ⟨by rw [List.map_snd_zip (by omega)], by rw [show (fun p : Operand × D => ρ p.1) = ρ ∘ Prod.fst from rfl, ← List.map_map, List.map_fst_zip (by omega)]⟩
  have split : ∀ {pf qf : List (Operand × D)}, Vals M w G ρ (pf ++ qf) → Vals M w G ρ pf ∧ Vals M w G ρ qf := fun {pf qf} h => by
    induction pf with
    | nil => exact ⟨trivial, h⟩
    | cons p r ih => obtain ⟨q1, q2⟩ := ih h.2; exact ⟨⟨h.1, q1⟩, q2⟩
  obtain ⟨s1, s2⟩ := split hv
  have v1 := vals_repL s1
  have v2 := vals_repL s2
  rw [(hz hl).1, (hz hl).2] at v1
  rw [(hz hl2).1, (hz hl2).2] at v2
  exact ⟨.func k (fs.map ρ).toArray (cs.map ρ).toArray, by simp [execOp, Instr.makeFunc], by simp only [Rep]; exact ⟨_, _, rfl, v1, v2⟩⟩
theorem Vw.out {pe : Sg} {d d' : D} {w0 : World} {M0 : Nat → Prop} {B0 : Bd} {g : Gh} {s : DS} {a : Act} {w : World} (hs : StG w0 M0 B0 N g s a w) (he : Ens s.σ pe) (h : Vw pe d d') {v : Value} (hv : Rep (Mx M0 g s.σ) w (some (g, s.σ)) d v) : Rep M0 w none d' v :=
  (h w0 M0 B0 N g s a w hs he v hv).mono fun b _ hb => .inl hb
theorem ResOk.one {fn : Func} {s : DS} {t : Tmp} {d d' : D} (pe : Sg) (hr : fn.results = #[.tmp t]) (hd : lkF s.f t = d) (he : Ens s.σ pe) (h : Vw pe d d') : ResOk P fn s d' := fun w0 M0 B0 N g a w hs =>
  ⟨a.tmps.getD t undef, by simp [results, hr], h.out hs he (by rw [← hd]; exact hs.tm t)⟩
theorem ResOk.two {fn : Func} {s : DS} {t u : Tmp} {d d' e e' : D} (pe : Sg) (hr : fn.results = #[.tmp t, .tmp u]) (hd : lkF s.f t = d) (hd2 : lkF s.f u = e) (he : Ens s.σ pe) (h : Vw pe d d') (h2 : Vw pe e e') : ResOk P fn s (.tup [d', e']) := fun w0 M0 B0 N g a w hs =>
  ⟨.tuple #[a.tmps.getD t undef, a.tmps.getD u undef], by simp [results, hr], by
    simp only [Rep]
    refine ⟨[_, _], rfl, ?_⟩
    simp only [RepL]
    exact ⟨_, _, rfl, h.out hs he (by rw [← hd]; exact hs.tm t), _, _, rfl, h2.out hs he (by rw [← hd2]; exact hs.tm u), rfl⟩⟩
theorem run_loadBox {w0 : World} {M0 : Nat → Prop} {B0 : Bd} {g : Gh} {s : DS} {a : Act} {w : World} (hs : StG w0 M0 B0 N g s a w) {id t : Nat} {bb : Bool} {n : Nat} {cs : List D} {d : D} (he : lkE s.σ id = some (.box cs)) (hb : aggOf P t = some bb) (hn : sizeOfT P t = some n) (h : partD bb n 0 cs = some d) (hk : keysOf cs = none) {v : Value} (hv : Rep (Mx M0 g s.σ) w (some (g, s.σ)) (.ref id 0) v) :
    ∃ x u, (asAddr v).run P w = .ok x w ∧ (loadVar t x).run P w = .ok u w ∧ Rep (Mx M0 g s.σ) w (some (g, s.σ)) d u := by
  simp only [Rep] at hv
  obtain ⟨g', σ', cs0, hG, h2, h3⟩ := hv
  cases hG
  obtain ⟨vs, T, o1, o2, o4⟩ := hs.ent id _ he
  obtain ⟨T, rfl⟩ := o4.cells hk
  obtain ⟨v, r1, r2⟩ := run_loadAt_rep (P := P) (b := g.blk id) (o := 0) hb hn h (fun i u hu => by simp only [World.cell?, o1, Nat.zero_add]; simpa using hu) o2
  simp only [Instr.loadAt, Instr.sureAddr, Nat.add_zero, Sem.run_bind, Sem.run_pure, Result.andThen_ok] at r1
  exact ⟨_, v, by rw [h3]; simp [asAddr], r1, r2⟩
theorem ResOk.cell {fn : Func} {s : DS} {x : Tmp} {t id n : Nat} {bb : Bool} {cs : List D} {d d' : D} (pe : Sg) (hr : fn.results = #[.cell x t]) (hx : lkF s.f x = .ref id 0) (hi : lkE s.σ id = some (.box cs)) (hb : aggOf P t = some bb) (hn : sizeOfT P t = some n) (hd : partD bb n 0 cs = some d) (he : Ens s.σ pe) (h : Vw pe d d') (hk : keysOf cs = none := by first | rfl | assumption) : ResOk P fn s d' := fun w0 M0 B0 N g a w hs => by
  have h0 := hs.tm x
  rw [hx] at h0
  obtain ⟨ad, u, h1, h2, h3⟩ := run_loadBox (P := P) hs hi hb hn hd hk h0
  rw [Array.getD_eq_getD_getElem?] at h1
  exact ⟨u, by simp [results, hr, h1, h2], h.out hs he h3⟩
theorem ResOk.cellTmp {fn : Func} {s : DS} {x u : Tmp} {t id n : Nat} {bb : Bool} {cs : List D} {d d' e e' : D} (pe : Sg) (hr : fn.results = #[.cell x t, .tmp u]) (hx : lkF s.f x = .ref id 0) (hi : lkE s.σ id = some (.box cs)) (hb : aggOf P t = some bb) (hn : sizeOfT P t = some n) (hd : partD bb n 0 cs = some d) (hu : lkF s.f u = e) (he : Ens s.σ pe) (h : Vw pe d d') (h2 : Vw pe e e') (hk : keysOf cs = none := by first | rfl | assumption) : ResOk P fn s (.tup [d', e']) := fun w0 M0 B0 N g a w hs => by
  have h0 := hs.tm x
  rw [hx] at h0
  obtain ⟨ad, v, h1, h4, h3⟩ := run_loadBox (P := P) hs hi hb hn hd hk h0
  rw [Array.getD_eq_getD_getElem?] at h1
  refine ⟨.tuple #[v, a.tmps.getD u undef], by simp [results, hr, h1, h4], ?_⟩
  simp only [Rep]
  refine ⟨[_, _], rfl, ?_⟩
  simp only [RepL]
  exact ⟨_, _, rfl, h.out hs he h3, _, _, rfl, h2.out hs he (by rw [← hu]; exact hs.tm u), rfl⟩
end
end Go.Dm
