/- A machine over data: maps; functions that stand for themselves. No condition. -/
import Derived.Test.YtjmljmappfhiaaaDoorNZ
import Derived.Maps.RangeRun
set_option linter.unusedSimpArgs false
set_option linter.unusedVariables false
set_option linter.unusedSectionVars false
set_option maxHeartbeats 400000
namespace Go.Dm
open Go Go.RowKit Go.PP
variable [GlobW]

section
variable {P : Program} {N : Nat} {dst : Option Tmp} {ty : TypeId} {pos : String} {af : Array Edge} {gd : Option (Nat × Bool)}

theorem run_setObjM {w : World} {r : Nat} {es : Array MapEntry} {clock : Nat} (hr : w.heap[r]? = some (.map es clock)) (o' : Obj) : (setObj r o').run P w = .ok () { w with heap := w.heap.setIfInBounds r o' } := by
  simp [setObj, Sem.run, hr]
theorem run_getObjM {w : World} {r : Nat} {es : Array MapEntry} {clock : Nat} (hr : w.heap[r]? = some (.map es clock)) : (getObj r).run P w = .ok (.map es clock) w := by
  simp [getObj, Sem.run, hr]
/-- The first entry under a key, among string keys. -/
def lkM {α : Type} : List (List UInt8) → List α → List UInt8 → Option α
  | a :: ks, d :: ds, k => if k = a then some d else lkM ks ds k
  | _, _, _ => none
theorem bytes_beq (a b : List UInt8) : ((⟨a.toArray⟩ : ByteArray) == (⟨b.toArray⟩ : ByteArray)) = decide (a = b) := by rw [beq_toListBytes, str_beq]
theorem findNow_str (k : List UInt8) : ∀ (l : List (List UInt8)) (es : List MapEntry) (i : Nat), es.map (·.key) = l.map strV → ∃ r : Option (Nat × Value), Instr.findNow .string (strV k) es i = some r ∧ r.map (·.2) = lkM l (es.map (·.val)) k
  | [], [], i, _ => ⟨none, rfl, rfl⟩
  | a :: l, e :: es, i, h => by
    simp only [List.map_cons, List.cons.injEq] at h
    obtain ⟨r, h1, h2⟩ := findNow_str k l es (i + 1) h.2
    simp only [Instr.findNow, h.1, Instr.sameNow, strV, bytes_beq, List.map_cons, lkM]
    by_cases hk : k = a
    · exact ⟨some (i, e.val), by simp [hk], by simp [hk]⟩
    · exact ⟨r, by simp [hk, h1], by simp [hk, h2]⟩
  | [], _ :: _, _, h => by simp at h
  | _ :: _, [], _, h => by simp at h
theorem lkM_rep {M : Nat → Prop} {w : World} {G : Cx} (k : List UInt8) : ∀ (l : List (List UInt8)) (ds : List D) (vs : List Value), RepL M w G ds vs → (match lkM l ds k with | some d => ∃ v, lkM l vs k = some v ∧ Rep M w G d v | none => lkM l vs k = none)
  | [], ds, vs, h => by simp [lkM]
  | a :: l, [], vs, h => by simp only [RepL] at h; subst h; simp [lkM]
  | a :: l, d :: ds, vs, h => by
    simp only [RepL] at h
    obtain ⟨u, us, rfl, h2, h3⟩ := h
    simp only [lkM]
    by_cases hk : k = a
    · simp only [if_pos hk]; exact ⟨u, rfl, h2⟩
    · simp only [if_neg hk]; exact lkM_rep k l ds us h3
theorem lkM_none {α : Type} {k : List UInt8} : ∀ {l : List (List UInt8)} {ds : List α}, k ∉ l → lkM l ds k = none
  | [], _, _ => by simp [lkM]
  | a :: l, [], _ => by simp [lkM]
  | a :: l, d :: ds, h => by
    simp only [List.mem_cons, not_or] at h
    simp only [lkM, if_neg h.1]
    exact lkM_none h.2
theorem lkM_const {α : Type} (c : α) (k : List UInt8) : ∀ l : List (List UInt8), lkM l (l.map fun _ => c) k = if k ∈ l then some c else none
  | [] => rfl
  | a :: l => by
    simp only [List.map_cons, lkM, lkM_const c k l, List.mem_cons]
    by_cases h : k = a <;> simp [h]
theorem run_checkKey_str {t : TypeId} {v : Value} {b : Bool} (w : World) (ht : P.underlying t = some .string) : (Instr.checkKey b 10000 t v).run P w = .ok () w := by
  unfold Instr.checkKey
  simp only [Sem.run_bind, run_underlying ht, Result.andThen_ok, Sem.run_pure]
theorem T.makeMap (id : Nat) (t : TypeId) (hid : newId N id = true := by first | exact rfl | assumption | decide +kernel) :
    Tri P N ⟨dst, .makeMap t none, ty, pos, af, gd⟩ [] [(id, none)] (.mp id) [(id, some (.box [.keys []]))] := by
  refine ⟨?_⟩
  intro w0 M0 B0 s a w next Q h1 h2 hd ⟨g, hs⟩ hk
  have hex : (execOp a.eval ⟨dst, .makeMap t none, ty, pos, af, gd⟩).run P w = .ok (.value (.map (some w.heap.size))) (w.alloc (.map #[] 0)) := by
    simp only [execOp, Option.map_none, Instr.makeMap, Sem.run_bind, run_newObj, Result.andThen_ok, Sem.run_pure]
  unfold Oper.wp
  rw [hex]
  have hno : lkE s.σ id = none := h2.1
  have hm : Fix w (w.alloc (.map #[] 0)) := (Mut.refl _ w).alloc _
  have hm' : Mut (fun b => blkOf g s.σ id = some b) w (w.alloc (.map #[] 0)) := hm.mono (fun _ _ e => e.elim)
  have hgrow : Grow (g, s.σ) (⟨fun k => if k = id then w.heap.size else g.blk k, g.row⟩, (id, some (.box [.keys []])) :: s.σ) :=
    ⟨fun k cs hc => by
      have hne : k ≠ id := fun e => by subst e; simp only at hc; rw [hno] at hc; cases hc
      exact ⟨⟨cs, by rw [lkE_cons, if_neg (fun e => hne e.symm)]; exact hc⟩, by simp [hne]⟩,
     fun k e n len cs hc => by
      have hne : k ≠ id := fun e => by subst e; simp only at hc; rw [hno] at hc; cases hc
      exact .inr ⟨e, n, len, cs, by rw [lkE_cons, if_neg (fun e => hne e.symm)]; exact hc, Nat.le_refl _, fun _ => rfl⟩,
     fun k hc => by
      have hne : k ≠ id := fun e => by subst e; simp only at hc; rw [hno] at hc; cases hc
      simp only at hc ⊢
      rw [lkE_cons, if_neg (fun e => hne e.symm)]; exact hc⟩
  refine hk _ _ ⟨⟨fun k => if k = id then w.heap.size else g.blk k, g.row⟩, hs.set1 (g' := ⟨fun k => if k = id then w.heap.size else g.blk k, g.row⟩) id (.box [.keys []]) (fun _ => hid) hm' (fun k hk => by simp [hk]) (fun k hk => rfl) hgrow ?_ ?_ hd ?_⟩
  · intro b hb
    simp only [blkOf, lkE_cons, if_pos, Option.some.injEq] at hb
    subst hb
    exact ⟨by simp, fun h => by omega⟩
  · intro M hM
    refine ⟨[undef], .map #[] 0, by simp only [if_pos]; exact heap_alloc_new w _, ?_, ?_⟩
    · simp only [RepL, Rep]; exact ⟨_, _, rfl, trivial, rfl⟩
    · unfold ObjIs keysOf
      exact ⟨#[], 0, rfl, rfl, rfl⟩
  · intro M hM
    simp only [Rep]
    exact ⟨_, _, _, rfl, by rw [lkE_cons, if_pos rfl], by simp⟩
theorem map_box {w0 : World} {M0 : Nat → Prop} {B0 : Bd} {g : Gh} {s : DS} {a : Act} {w : World} (hs : StG w0 M0 B0 N g s a w) {id : Nat} {ks : List Value} {ds : List D} (he : lkE s.σ id = some (.box (.keys ks :: ds))) :
    ∃ (u : Value) (es : Array MapEntry) (clock : Nat), w.heap[g.blk id]? = some (.map es clock) ∧ es.toList.map (·.key) = ks ∧ RepL (Mx M0 g s.σ) w (some (g, s.σ)) ds (es.toList.map (·.val)) := by
  obtain ⟨vs, o, h1, h2, h3⟩ := hs.ent id _ he
  unfold ObjIs keysOf at h3
  obtain ⟨es, clock, rfl, h4, h5⟩ := h3
  simp only [RepL] at h2
  obtain ⟨u, us, rfl, _, h6⟩ := h2
  simp only [List.tail_cons] at h5
  subst h5
  exact ⟨u, es, clock, h1, h4, h6⟩
theorem T.lookupStr {id tk te : Nat} {l : List (List UInt8)} {ds : List D} {k : List UInt8} {z : Value} {d : D} (t : TypeId) (x y : Operand) (ht : P.underlying t = some (.map tk te)) (hk : P.underlying tk = some .string) (hz : zeroT P te = some z) (h : (lkM l ds k).getD (.flat z) = d) :
    Tri P N ⟨dst, .lookup t x y false, ty, pos, af, gd⟩ [(x, .mp id), (y, .flat (.string ⟨k.toArray⟩))] [(id, some (.box (.keys (l.map strV) :: ds)))] d [] := Tri.read fun w0 M0 B0 g s a w hs hE hv => by
  obtain ⟨u, es, clock, h1, h2, h3⟩ := map_box hs hE.1
  have hx := hv.1
  simp only [Rep] at hx
  obtain ⟨g', σ', cs, hG, _, hx⟩ := hx
  cases hG
  obtain ⟨r, q1, q2⟩ := findNow_str k l es.toList 0 h2
  have h4 := lkM_rep k l ds _ h3
  have hcore : ∀ v : Value, (r.map (·.2)).getD z = v → (execOp a.eval ⟨dst, .lookup t x y false, ty, pos, af, gd⟩).run P w = .ok (.value v) w := fun v hv' => by
    have hy : a.eval y = strV k := hv.2.one
    simp only [execOp, Instr.lookup, Sem.run_bind, run_underlying ht, Result.andThen_ok, hx, run_getObjM h1, Sem.run_pure, hy, run_checkKey_str w hk, Instr.findKey, run_underlying hk, q1]
    cases r with
    | none => simp only [Sem.run_bind, run_zeroT hz, Result.andThen_ok, Sem.run_pure]; simp at hv'; subst hv'; rfl
    | some p => simp only [Sem.run_pure, Result.andThen_ok]; simp at hv'; subst hv'; rfl
  cases hl : lkM l ds k with
  | none =>
    rw [hl] at h4 h
    simp only at h4
    simp only [Option.getD_none] at h
    subst h
    exact ⟨z, w, hcore z (by rw [q2, h4]; rfl), Mut.refl _ w, by simp only [Rep]⟩
  | some d' =>
    rw [hl] at h4 h
    simp only at h4
    simp only [Option.getD_some] at h
    subst h
    obtain ⟨v, q3, q4⟩ := h4
    exact ⟨v, w, hcore v (by rw [q2, q3]; rfl), Mut.refl _ w, q4⟩
theorem T.mapPutStr {id tk te : Nat} {l : List (List UInt8)} {ds : List D} {k : List UInt8} {d : D} (t : TypeId) (x y v : Operand) (ht : P.underlying t = some (.map tk te)) (hk : P.underlying tk = some .string) (h : k ∉ l) :
    Tri P N ⟨dst, .mapUpdate t x y v, ty, pos, af, gd⟩ [(x, .mp id), (y, .flat (.string ⟨k.toArray⟩)), (v, d)] [(id, some (.box (.keys (l.map strV) :: ds)))] (.flat undef) [(id, some (.box (.keys ((l ++ [k]).map strV) :: (ds ++ [d]))))] := by
  refine ⟨?_⟩
  intro w0 M0 B0 s a w next Q h1 h2 hd ⟨g, hs⟩ hkk
  have hE := h2
  have hv := hs.vals h1
  have he := hE.1
  obtain ⟨u, es, clock, o1, o2, o3⟩ := map_box hs he
  have hx := hv.1
  simp only [Rep] at hx
  obtain ⟨g', σ', cs, hG, _, hx⟩ := hx
  cases hG
  have hx : a.eval x = .map (some (g.blk id)) := hx
  have hy : a.eval y = strV k := hv.2.one
  have hdv : Rep (Mx M0 g s.σ) w (some (g, s.σ)) d (a.eval v) := hv.2.2.1
  obtain ⟨r, q1, q2⟩ := findNow_str k l es.toList 0 o2
  rw [lkM_none h] at q2
  have hr : r = none := by cases r with | none => rfl | some p => cases q2
  subst hr
  let o' : Obj := .map (es.push { key := strV k, val := a.eval v, born := clock }) (clock + 1)
  let w' : World := { w with heap := w.heap.setIfInBounds (g.blk id) o' }
  have hex : (execOp a.eval ⟨dst, .mapUpdate t x y v, ty, pos, af, gd⟩).run P w = .ok .skip w' := by
    simp only [execOp, Instr.mapUpdate, Sem.run_bind, run_underlying ht, Result.andThen_ok, hx, run_getObjM o1, Sem.run_pure, hy, run_checkKey_str w hk, Instr.findKey, run_underlying hk, q1, run_setObjM o1]
    rfl
  unfold Oper.wp
  rw [hex]
  have hbo : blkOf g s.σ id = some (g.blk id) := by unfold blkOf; rw [he]
  have hlt : g.blk id < w.heap.size := (Array.getElem?_eq_some_iff.1 o1).1
  have hm : Mut (fun b => blkOf g s.σ id = some b) w w' := ⟨rfl, rfl, rfl, by simp [w'], fun b hb hn => by
    have : g.blk id ≠ b := fun e => hn (by rw [hbo, e])
    simp [w', Array.getElem?_setIfInBounds, this]⟩
  have hS : ∀ b, b < w.heap.size → blkOf g s.σ id = some b → Mx M0 g s.σ b := fun b _ hb => .inr ⟨id, hb⟩
  have hgr : Grow (g, s.σ) (g, (id, some (.box (.keys ((l ++ [k]).map strV) :: (ds ++ [d])))) :: s.σ) := ⟨fun k c1 hk => by
      by_cases e2 : id = k
      · subst e2; exact ⟨⟨_, by rw [lkE_cons, if_pos rfl]⟩, rfl⟩
      · exact ⟨⟨c1, by rw [lkE_cons, if_neg e2]; exact hk⟩, rfl⟩, fun k e1 n1 l1 c1 hk => by
      by_cases e2 : id = k
      · subst e2; simp only at hk; rw [he] at hk; cases hk
      · exact .inr ⟨e1, n1, l1, c1, by rw [lkE_cons, if_neg e2]; exact hk, Nat.le_refl _, fun _ => rfl⟩, fun k hk => by
      have hne : ¬ id = k := fun e1 => by subst e1; simp only at hk; rw [he] at hk; cases hk
      simp only at hk ⊢
      rw [lkE_cons, if_neg hne]; exact hk⟩
  refine hkk _ _ ⟨g, hs.set1 id (.box (.keys ((l ++ [k]).map strV) :: (ds ++ [d]))) (fun h0 => by rw [he] at h0; cases h0) hm (fun _ _ => rfl) (fun _ _ => rfl) hgr (fun b hb => ?_) (fun M hM => ?_) hd (fun M hM => by simp only [Rep])⟩
  · simp only [blkOf, lkE_cons, if_pos, Option.some.injEq] at hb
    subst hb
    exact ⟨Nat.lt_of_lt_of_le hlt hm.size, fun _ => hbo⟩
  · refine ⟨undef :: (es.toList.map (·.val) ++ [a.eval v]), o', ?_, ?_, ?_⟩
    · simp [w', Array.getElem?_setIfInBounds, hlt]
    · have h5 : RepL (Mx M0 g s.σ) w (some (g, s.σ)) (ds ++ [d]) (es.toList.map (·.val) ++ [a.eval v]) := RepL.append o3 (by simp only [RepL]; exact ⟨_, _, rfl, hdv, rfl⟩)
      have h6 := RepL.step (G := some _) (G' := some _) hgr hm hS hM _ _ h5
      simp only [RepL, Rep]
      exact ⟨_, _, rfl, trivial, h6⟩
    · unfold ObjIs keysOf
      exact ⟨_, _, rfl, by simp [o2], by simp⟩
/-- A function that stands for itself is a closure that holds nothing. -/
theorem Le.fn {f : Fn} : Le (.flat (.func f #[] #[])) (.clo f [] []) := fun M w G v _ h => by
  simp only [Rep, RepL] at h ⊢
  exact ⟨[], [], h, rfl, rfl⟩
/-- A string's bytes behind a row: append. -/
theorem T.appendStrB {id e L bytes : Nat} {z : Value} {cs : List D} {b : List UInt8} (t xt : TypeId) (x y : Operand) (ht : P.underlying t = some (.slice e)) (hxt : P.underlying xt = some .string) (hinfo : (P.info? e).map (fun i => (i.zero, i.size, i.bytes)) = some (some z, 1, bytes)) (hzs : z.cells.size = 1) (hbp : 0 < bytes)
    (hby : (L + b.length) * bytes ≤ 140737488355328) :
    Tri P N ⟨dst, .call { callee := .builtin .append, args := #[x, y], argTypes := #[t, xt] }, ty, pos, af, gd⟩ [(x, .own id L), (y, .flat (.string ⟨b.toArray⟩))] [(id, some (.row e 1 L cs))] (.own id (L + b.length)) [(id, some (.row e 1 (L + b.length) (cs ++ bD b)))] := by
  have := T.appendStr (P := P) (N := N) (dst := dst) (ty := ty) (pos := pos) (af := af) (gd := gd) (id := id) (L := L) (cs := cs) (b := ⟨b.toArray⟩) t xt x y ht hxt hinfo hzs hbp (by rw [bsz]; exact hby)
  rw [bsz] at this
  exact this
theorem ResL.two {fn : Func} {s : DS} {we : Sg} {f' : Fr} {t u : Tmp} {d e : D} (hr : fn.results = #[.tmp t, .tmp u]) (h1 : EsOk s.σ we we) (h2 : FsOk s.σ we s.f f') (hd : lkF f' t = d) (he : lkF f' u = e) : ResL P fn N s we (.tup [d, e]) :=
  ⟨f', h1, h2, fun w0 M0 B0 g a w hs => ⟨.tuple #[a.tmps.getD t undef, a.tmps.getD u undef], by simp [results, hr], by
    have q1 := hs.tm t
    have q2 := hs.tm u
    rw [hd] at q1
    rw [he] at q2
    simp only [Rep, RepL]
    exact ⟨_, rfl, _, _, rfl, q1, _, _, rfl, q2, rfl⟩⟩⟩
end
end Go.Dm
