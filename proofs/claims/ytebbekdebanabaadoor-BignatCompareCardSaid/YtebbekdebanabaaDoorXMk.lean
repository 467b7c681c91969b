/- A machine over data: maps with keys of any kind. No condition. -/
import Derived.Test.YtebbekdebanabaaDoorXQ
import Derived.Test.YtebbekdebanabaaDoorXAr
import Derived.Maps.Own

set_option linter.unusedSimpArgs false
set_option linter.unusedVariables false
set_option linter.unusedSectionVars false
set_option maxHeartbeats 400000
namespace Go.Dm
open Go Go.RowKit Go.PP
variable [GlobW] [Rnd]

/-- A datum that stands for one value alone. -/
structure IsV (d : D) (v : Value) : Prop where
  h : ∀ (M : Nat → Prop) (w : World) (G : Cx) (u : Value), Rep M w G d u → u = v
theorem IsV.flat {v : Value} : IsV (.flat v) v := ⟨fun M w G u h => by simpa only [Rep] using h⟩
theorem repL_flats {M : Nat → Prop} {w : World} {G : Cx} : ∀ (vs us : List Value), RepL M w G (vs.map D.flat) us → us = vs
  | [], us, h => by simpa only [List.map_nil, RepL] using h
  | v :: vs, us, h => by
    simp only [List.map_cons, RepL, Rep] at h
    obtain ⟨u, r, rfl, rfl, h2⟩ := h
    rw [repL_flats vs r h2]
theorem IsV.agg {cs : List D} (vs : List Value) (h : cs = vs.map D.flat) : IsV (.agg cs) (.agg vs.toArray) := ⟨fun M w G u hu => by
  simp only [Rep] at hu
  obtain ⟨us, rfl, h2⟩ := hu
  rw [h] at h2
  rw [repL_flats vs us h2]⟩
theorem IsV.aD {cs : List D} {k : IntKind} {n : Nat} {f : Nat → Int} (h : cs = aD k n f) : IsV (.agg cs) (.agg ((List.range n).map fun i => Value.int k (f i)).toArray) := ⟨fun M w G u hu => by
  rw [h] at hu
  exact aD_rep hu⟩
/-- Keys that a map may have, no two alike. -/
structure KeysOk (P : Program) (tk : TypeId) (ks : List Value) : Prop where
  law : Maps.Keyed P tk
  lit : ∀ k ∈ ks, ∃ l, keyOf P tk k = some l
  nd : ks.Nodup
structure LookT (P : Program) (tk : TypeId) (ks : List Value) (v : Value) (i : Nat) : Prop where
  ok : KeysOk P tk ks
  hi : ks[i]? = some v
structure LookN (P : Program) (tk : TypeId) (ks : List Value) (v : Value) : Prop where
  ok : KeysOk P tk ks
  lit : ∃ l, keyOf P tk v = some l
  hn : v ∉ ks
theorem KeysOk.nil {P : Program} {tk : TypeId} (h : Maps.Keyed P tk) : KeysOk P tk [] := ⟨h, (fun k hk => by cases hk), List.nodup_nil⟩
theorem LookN.snoc {P : Program} {tk : TypeId} {ks : List Value} {v : Value} (h : LookN P tk ks v) : KeysOk P tk (ks ++ [v]) := ⟨h.ok.law, fun k hk => by
  rcases List.mem_append.1 hk with hk | hk
  · exact h.ok.lit k hk
  · rw [List.mem_singleton] at hk; subst hk; exact h.lit, List.nodup_append.2 ⟨h.ok.nd, List.nodup_cons.2 ⟨(by intro h; cases h), List.nodup_nil⟩, fun a ha b hb e => by
    rw [List.mem_singleton] at hb; subst hb; subst e; exact h.hn ha⟩⟩
section
variable {P : Program} {N : Nat} {dst : Option Tmp} {ty : TypeId} {pos : String} {af : Array Edge} {gd : Option (Nat × Bool)} {tk : TypeId} {ks : List Value} {v : Value}
theorem LookN.run (h : LookN P tk ks v) (w : World) {es : List MapEntry} (he : es.map (·.key) = ks) : (Instr.findKey tk v es).run P w = .ok none w := by
  obtain ⟨l, hl⟩ := h.lit
  rcases h.ok.law.find w hl es (fun e hm => h.ok.lit e.key (by rw [← he]; exact List.mem_map_of_mem hm)) with ⟨h1, _⟩ | ⟨j, e, h1, h2, h3⟩
  · exact h1
  · exact absurd (by rw [← he, ← h3]; exact List.mem_map_of_mem (List.mem_of_getElem? h2)) h.hn
theorem LookT.run {i : Nat} (h : LookT P tk ks v i) (w : World) {es : List MapEntry} (he : es.map (·.key) = ks) : ∃ e, (Instr.findKey tk v es).run P w = .ok (some (i, e.val)) w ∧ es[i]? = some e ∧ e.key = v := by
  have hm := List.mem_of_getElem? h.hi
  obtain ⟨l, hl⟩ := h.ok.lit v hm
  rcases h.ok.law.find w hl es (fun e hm => h.ok.lit e.key (by rw [← he]; exact List.mem_map_of_mem hm)) with ⟨_, h1⟩ | ⟨j, e, h1, h2, h3⟩
  · rw [← he] at hm
    obtain ⟨e, he1, he2⟩ := List.mem_map.1 hm
    exact absurd he2 (h1 e he1)
  · have hj : ks[j]? = some v := by rw [← he, List.getElem?_map, h2, Option.map_some, h3]
    have hji : j = i := (List.getElem?_inj (List.getElem?_eq_some_iff.1 hj).1 h.ok.nd).1 (hj.trans h.hi.symm)
    subst hji
    exact ⟨e, h1, h2, h3⟩
theorem LookT.check {i : Nat} (h : LookT P tk ks v i) (w : World) (b : Bool) : (Instr.checkKey b 10000 tk v).run P w = .ok () w := by
  obtain ⟨l, hl⟩ := h.ok.lit v (List.mem_of_getElem? h.hi)
  exact h.ok.law.check w b hl
theorem LookN.check (h : LookN P tk ks v) (w : World) (b : Bool) : (Instr.checkKey b 10000 tk v).run P w = .ok () w := by
  obtain ⟨l, hl⟩ := h.lit
  exact h.ok.law.check w b hl
theorem mp_at {M : Nat → Prop} {w : World} {g : Gh} {σ : Sg} {id : Nat} {u : Value} (h : Rep M w (some (g, σ)) (.mp id) u) : u = .map (some (g.blk id)) := by
  simp only [Rep] at h
  obtain ⟨g', σ', cs, hG, _, hx⟩ := h
  cases hG
  exact hx
theorem T.lookupNF {id te : Nat} {ds : List D} {z : Value} {d : D} (t : TypeId) (x y : Operand) (ht : P.underlying t = some (.map tk te)) (hz : zeroT P te = some z) (hv : IsV d v) (h : LookN P tk ks v) :
    Tri P N ⟨dst, .lookup t x y false, ty, pos, af, gd⟩ [(x, .mp id), (y, d)] [(id, some (.box (.keys ks :: ds)))] (.flat z) [] := Tri.read fun w0 M0 B0 g s a w hs hE hw => by
  obtain ⟨u, es, clock, h1, h2, h3⟩ := map_box hs hE.1
  have hx := mp_at hw.1
  have hy := hv.h _ _ _ _ hw.2.1
  refine ⟨z, w, ?_, Mut.refl _ w, by simp only [Rep]⟩
  simp only [execOp, Instr.lookup, Sem.run_bind, run_underlying ht, Result.andThen_ok, hx, run_getObjM h1, Sem.run_pure, hy, h.check, h.run w h2, run_zeroT hz]
  rfl
theorem T.lookupNT {id te : Nat} {ds : List D} {z : Value} {d : D} (t : TypeId) (x y : Operand) (ht : P.underlying t = some (.map tk te)) (hz : zeroT P te = some z) (hv : IsV d v) (h : LookN P tk ks v) :
    Tri P N ⟨dst, .lookup t x y true, ty, pos, af, gd⟩ [(x, .mp id), (y, d)] [(id, some (.box (.keys ks :: ds)))] (.tup [.flat z, .flat (.bool false)]) [] := Tri.read fun w0 M0 B0 g s a w hs hE hw => by
  obtain ⟨u, es, clock, h1, h2, h3⟩ := map_box hs hE.1
  have hx := mp_at hw.1
  have hy := hv.h _ _ _ _ hw.2.1
  refine ⟨.tuple #[z, .bool false], w, ?_, Mut.refl _ w, by simp only [Rep, RepL]; exact ⟨_, rfl, _, _, rfl, rfl, _, _, rfl, rfl, rfl⟩⟩
  simp only [execOp, Instr.lookup, Sem.run_bind, run_underlying ht, Result.andThen_ok, hx, run_getObjM h1, Sem.run_pure, hy, h.check, h.run w h2, run_zeroT hz]
  rfl
theorem T.lookupTF {id te i : Nat} {ds : List D} {d dv : D} (t : TypeId) (x y : Operand) (ht : P.underlying t = some (.map tk te)) (hv : IsV d v) (h : LookT P tk ks v i) (hd : ds[i]? = some dv) :
    Tri P N ⟨dst, .lookup t x y false, ty, pos, af, gd⟩ [(x, .mp id), (y, d)] [(id, some (.box (.keys ks :: ds)))] dv [] := Tri.read fun w0 M0 B0 g s a w hs hE hw => by
  obtain ⟨u, es, clock, h1, h2, h3⟩ := map_box hs hE.1
  have hx := mp_at hw.1
  have hy := hv.h _ _ _ _ hw.2.1
  obtain ⟨e, q1, q2, q3⟩ := h.run w h2
  obtain ⟨y', q4, q5⟩ := h3.get i hd
  rw [List.getElem?_map, q2, Option.map_some] at q4
  cases q4
  refine ⟨e.val, w, ?_, Mut.refl _ w, q5⟩
  simp only [execOp, Instr.lookup, Sem.run_bind, run_underlying ht, Result.andThen_ok, hx, run_getObjM h1, Sem.run_pure, hy, h.check, q1]
  rfl
theorem T.lookupTT {id te i : Nat} {ds : List D} {d dv : D} (t : TypeId) (x y : Operand) (ht : P.underlying t = some (.map tk te)) (hv : IsV d v) (h : LookT P tk ks v i) (hd : ds[i]? = some dv) :
    Tri P N ⟨dst, .lookup t x y true, ty, pos, af, gd⟩ [(x, .mp id), (y, d)] [(id, some (.box (.keys ks :: ds)))] (.tup [dv, .flat (.bool true)]) [] := Tri.read fun w0 M0 B0 g s a w hs hE hw => by
  obtain ⟨u, es, clock, h1, h2, h3⟩ := map_box hs hE.1
  have hx := mp_at hw.1
  have hy := hv.h _ _ _ _ hw.2.1
  obtain ⟨e, q1, q2, q3⟩ := h.run w h2
  obtain ⟨y', q4, q5⟩ := h3.get i hd
  rw [List.getElem?_map, q2, Option.map_some] at q4
  cases q4
  refine ⟨.tuple #[e.val, .bool true], w, ?_, Mut.refl _ w, by simp only [Rep, RepL]; exact ⟨_, rfl, _, _, rfl, q5, _, _, rfl, rfl, rfl⟩⟩
  simp only [execOp, Instr.lookup, Sem.run_bind, run_underlying ht, Result.andThen_ok, hx, run_getObjM h1, Sem.run_pure, hy, h.check, q1]
  rfl
/-- A map's entries written over. -/
theorem map_set {o : Oper} {id : Nat} {ks' : List Value} {ds ds' : List D} {pf : List (Operand × D)} (hrun : ∀ (w0 : World) (M0 : Nat → Prop) (B0 : Bd) (g : Gh) (s : DS) (a : Act) (w : World), StG w0 M0 B0 N g s a w → Vals (Mx M0 g s.σ) w (some (g, s.σ)) a.eval pf → ∀ (es : Array MapEntry) (clock : Nat), w.heap[g.blk id]? = some (.map es clock) → es.toList.map (·.key) = ks → RepL (Mx M0 g s.σ) w (some (g, s.σ)) ds (es.toList.map (·.val)) →
    ∃ (es' : Array MapEntry) (clock' : Nat), (execOp a.eval o).run P w = .ok .skip { w with heap := w.heap.setIfInBounds (g.blk id) (.map es' clock') } ∧ es'.toList.map (·.key) = ks' ∧ RepL (Mx M0 g s.σ) w (some (g, s.σ)) ds' (es'.toList.map (·.val))) :
    Tri P N o pf [(id, some (.box (.keys ks :: ds)))] (.flat undef) [(id, some (.box (.keys ks' :: ds')))] := by
  refine ⟨?_⟩
  intro w0 M0 B0 s a w next Q h1 h2 hd ⟨g, hs⟩ hkk
  have he := h2.1
  obtain ⟨u, es, clock, o1, o2, o3⟩ := map_box hs he
  obtain ⟨es', clock', hex, q1, q2⟩ := hrun w0 M0 B0 g s a w hs (hs.vals h1) es clock o1 o2 o3
  let o' : Obj := .map es' clock'
  let w' : World := { w with heap := w.heap.setIfInBounds (g.blk id) o' }
  refine opIn_skip (w' := w') hex ?_
  have hbo : blkOf g s.σ id = some (g.blk id) := by unfold blkOf; rw [he]
  have hlt : g.blk id < w.heap.size := (Array.getElem?_eq_some_iff.1 o1).1
  have hm : Mut (fun b => blkOf g s.σ id = some b) w w' := ⟨rfl, rfl, rfl, by simp [w'], fun b hb hn => by
    have : g.blk id ≠ b := fun e => hn (by rw [hbo, e])
    simp [w', Array.getElem?_setIfInBounds, this]⟩
  have hS : ∀ b, b < w.heap.size → blkOf g s.σ id = some b → Mx M0 g s.σ b := fun b _ hb => .inr ⟨id, hb⟩
  have hgr : Grow (g, s.σ) (g, (id, some (.box (.keys ks' :: ds'))) :: s.σ) := ⟨fun k c1 hk => by
      by_cases e2 : id = k
      · subst e2; exact ⟨⟨_, by rw [lkE_cons, if_pos rfl]⟩, rfl⟩
      · exact ⟨⟨c1, by rw [lkE_cons, if_neg e2]; exact hk⟩, rfl⟩, fun k e1 n1 l1 c1 hk => by
      by_cases e2 : id = k
      · subst e2; simp only at hk; rw [he] at hk; cases hk
      · exact .inr ⟨e1, n1, l1, c1, by rw [lkE_cons, if_neg e2]; exact hk, Nat.le_refl _, fun _ => rfl⟩, fun k hk => by
      have hne : ¬ id = k := fun e1 => by subst e1; simp only at hk; rw [he] at hk; cases hk
      simp only at hk ⊢
      rw [lkE_cons, if_neg hne]; exact hk⟩
  refine hkk _ _ ⟨g, hs.set1 id (.box (.keys ks' :: ds')) (fun h0 => by rw [he] at h0; cases h0) hm (fun _ _ => rfl) (fun _ _ => rfl) hgr (fun b hb => ?_) (fun M hM => ?_) hd (fun M hM => by simp only [Rep])⟩
  · simp only [blkOf, lkE_cons, if_pos, Option.some.injEq] at hb
    subst hb
    exact ⟨Nat.lt_of_lt_of_le hlt hm.size, fun _ => hbo⟩
  · refine ⟨undef :: es'.toList.map (·.val), o', ?_, ?_, ?_⟩
    · simp [w', Array.getElem?_setIfInBounds, hlt]
    · have h6 := RepL.step (G := some _) (G' := some _) hgr hm hS hM _ _ q2
      simp only [RepL, Rep]
      exact ⟨_, _, rfl, trivial, h6⟩
    · unfold ObjIs keysOf
      exact ⟨_, _, rfl, q1, rfl⟩
theorem run_putN {te : Nat} {t : TypeId} {w : World} {r : Nat} {es : Array MapEntry} {clock : Nat} (ht : P.underlying t = some (.map tk te)) (h : LookN P tk ks v) (hr : w.heap[r]? = some (.map es clock)) (he : es.toList.map (·.key) = ks) (x : Value) :
    (Instr.mapUpdate t (.map (some r)) v x).run P w = .ok () { w with heap := w.heap.setIfInBounds r (.map (es.push { key := v, val := x, born := clock }) (clock + 1)) } := by
  simp only [Instr.mapUpdate, Sem.run_bind, run_underlying ht, Result.andThen_ok, run_getObjM hr, h.check, h.run w he, run_setObjM hr]
theorem run_putT {te i : Nat} {t : TypeId} {w : World} {r : Nat} {es : Array MapEntry} {clock : Nat} (ht : P.underlying t = some (.map tk te)) (h : LookT P tk ks v i) (hr : w.heap[r]? = some (.map es clock)) (he : es.toList.map (·.key) = ks) (x : Value) :
    (Instr.mapUpdate t (.map (some r)) v x).run P w = .ok () { w with heap := w.heap.setIfInBounds r (.map (es.modify i fun e => { key := v, val := x, born := e.born }) clock) } := by
  obtain ⟨e, q1, q2, q3⟩ := h.run w he
  obtain ⟨l, hl⟩ := h.ok.lit v (List.mem_of_getElem? h.hi)
  have q2' : es[i]? = some e := by rw [← Array.getElem?_toList]; exact q2
  simp only [Instr.mapUpdate, Sem.run_bind, run_underlying ht, Result.andThen_ok, run_getObjM hr, h.check, q1, q2', Option.map_some, Option.getD_some, q3, h.ok.law.stays w hl, run_setObjM hr]
theorem modify_key {es : List MapEntry} {i : Nat} {x : Value} (hi : (es.map (·.key))[i]? = some v) : ((es.modify i fun e => { key := v, val := x, born := e.born }).map (·.key)) = es.map (·.key) := by
  refine List.ext_getElem? fun j => ?_
  rw [List.getElem?_map, List.getElem?_map, List.getElem?_modify]
  rw [List.getElem?_map] at hi
  by_cases h : i = j
  · subst h
    cases he : es[i]? with
    | none => rfl
    | some e => rw [he] at hi; simpa using hi.symm
  · simp [h]
theorem modify_val {es : List MapEntry} {i : Nat} {x : Value} : ((es.modify i fun e => { key := v, val := x, born := e.born }).map (·.val)) = (es.map (·.val)).set i x := by
  refine List.ext_getElem? fun j => ?_
  rw [List.getElem?_map, List.getElem?_set, List.getElem?_modify, List.getElem?_map, List.length_map]
  by_cases h : i = j
  · subst h
    rw [if_pos rfl]
    cases he : es[i]? with
    | none =>
      have := List.getElem?_eq_none_iff.1 he
      rw [if_neg (by omega)]; simp
    | some e =>
      have := (List.getElem?_eq_some_iff.1 he).1
      rw [if_pos (by omega)]; simp
  · simp [h]
theorem RepL.setD {M : Nat → Prop} {w : World} {G : Cx} {ds : List D} {vs : List Value} {d : D} {u : Value} (h : RepL M w G ds vs) (i : Nat) (hu : Rep M w G d u) : RepL M w G (ds.set i d) (vs.set i u) := by
  refine RepL.of (by rw [List.length_set, List.length_set]; exact h.length) fun j d' u' h1 h2 => ?_
  rw [List.getElem?_set] at h1 h2
  by_cases e : i = j
  · subst e
    rw [if_pos rfl] at h1 h2
    split at h1
    · split at h2
      · cases h1; cases h2; exact hu
      · cases h2
    · cases h1
  · rw [if_neg e] at h1 h2
    obtain ⟨u2, q1, q2⟩ := h.get j h1
    rw [h2] at q1
    cases q1
    exact q2
theorem T.putN {id te : Nat} {ds : List D} {d dv : D} (t : TypeId) (x y e : Operand) (ht : P.underlying t = some (.map tk te)) (hv : IsV d v) (h : LookN P tk ks v) :
    Tri P N ⟨dst, .mapUpdate t x y e, ty, pos, af, gd⟩ [(x, .mp id), (y, d), (e, dv)] [(id, some (.box (.keys ks :: ds)))] (.flat undef) [(id, some (.box (.keys (ks ++ [v]) :: (ds ++ [dv]))))] :=
  map_set fun w0 M0 B0 g s a w hs hw es clock h1 h2 h3 => by
    refine ⟨es.push { key := v, val := a.eval e, born := clock }, clock + 1, ?_, ?_, ?_⟩
    · simp only [execOp, mp_at hw.1, hv.h _ _ _ _ hw.2.1, Sem.run_bind, run_putN ht h h1 h2]
      rfl
    · simp [h2]
    · simpa using RepL.append h3 (by simp only [RepL]; exact ⟨_, _, rfl, hw.2.2.1, rfl⟩)
theorem T.putT {id te i : Nat} {ds : List D} {d dv : D} (t : TypeId) (x y e : Operand) (ht : P.underlying t = some (.map tk te)) (hv : IsV d v) (h : LookT P tk ks v i) :
    Tri P N ⟨dst, .mapUpdate t x y e, ty, pos, af, gd⟩ [(x, .mp id), (y, d), (e, dv)] [(id, some (.box (.keys ks :: ds)))] (.flat undef) [(id, some (.box (.keys ks :: (ds.set i dv))))] :=
  map_set fun w0 M0 B0 g s a w hs hw es clock h1 h2 h3 => by
    refine ⟨es.modify i fun q => { key := v, val := a.eval e, born := q.born }, clock, ?_, ?_, ?_⟩
    · simp only [execOp, mp_at hw.1, hv.h _ _ _ _ hw.2.1, Sem.run_bind, run_putT ht h h1 h2]
      rfl
    · rw [Array.toList_modify, modify_key (by rw [h2]; exact h.hi), h2]
    · rw [Array.toList_modify, modify_val]
      exact h3.setD i hw.2.2.1
theorem T.insN {id te : Nat} {ds : List D} {d dv : D} (t : TypeId) (x y e : Operand) (ht : P.underlying t = some (.map tk te)) (hv : IsV d v) (h : LookN P tk ks v) :
    Tri P N ⟨dst, .insert t x y e, ty, pos, af, gd⟩ [(x, .mp id), (y, d), (e, dv)] [(id, some (.box (.keys ks :: ds)))] (.flat undef) [(id, some (.box (.keys (ks ++ [v]) :: (ds ++ [dv]))))] :=
  map_set fun w0 M0 B0 g s a w hs hw es clock h1 h2 h3 => by
    refine ⟨es.push { key := v, val := a.eval e, born := clock }, clock + 1, ?_, ?_, ?_⟩
    · simp only [execOp, mp_at hw.1, hv.h _ _ _ _ hw.2.1, Sem.run_bind, run_putN ht h h1 h2]
      rfl
    · simp [h2]
    · simpa using RepL.append h3 (by simp only [RepL]; exact ⟨_, _, rfl, hw.2.2.1, rfl⟩)
end
end Go.Dm
