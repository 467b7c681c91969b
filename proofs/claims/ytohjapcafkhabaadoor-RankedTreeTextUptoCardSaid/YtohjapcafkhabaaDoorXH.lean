/- A machine over data: slices made, grown and stored into. No condition. -/
import Derived.Test.YtohjapcafkhabaaDoorXF
import Derived.Deep.OwnRows

set_option linter.unusedSimpArgs false
set_option linter.unusedVariables false
set_option linter.unusedSectionVars false
set_option maxHeartbeats 400000
namespace Go.Dm
open Go Go.RowKit Go.PP
variable [GlobW] [Rnd]

section
variable {P : Program} {N : Nat} {dst : Option Tmp} {ty : TypeId} {pos : String} {af : Array Edge} {gd : Option (Nat × Bool)}

/-! structs with few parts -/
theorem T.buildS0 {fs : List Field} {pl : List (Nat × Nat)} {z : Value} (t : TypeId) (ht : P.underlying t = some (.struct fs.toArray)) (hz : zeroT P t = some z) (hp : placesD P fs = some pl) :
    Tri P N ⟨dst, .build t #[], ty, pos, af, gd⟩ [] [] (.agg (flats z.cells)) [] := T.buildS t [] ht hz hp rfl
theorem T.buildS1 {fs : List Field} {pl : List (Nat × Nat)} {z : Value} {cs : List D} {i : Nat} {d : D} (t : TypeId) (x : Operand) (ht : P.underlying t = some (.struct fs.toArray)) (hz : zeroT P t = some z) (hp : placesD P fs = some pl)
    (h : fillD (fun i => pl[i]?) (flats z.cells) [(i, d)] = some cs) : Tri P N ⟨dst, .build t #[(i, x)], ty, pos, af, gd⟩ [(x, d)] [] (.agg cs) [] := T.buildS t [(i, x, d)] ht hz hp h
theorem T.buildS2 {fs : List Field} {pl : List (Nat × Nat)} {z : Value} {cs : List D} {i j : Nat} {d e : D} (t : TypeId) (x y : Operand) (ht : P.underlying t = some (.struct fs.toArray)) (hz : zeroT P t = some z) (hp : placesD P fs = some pl)
    (h : fillD (fun i => pl[i]?) (flats z.cells) [(i, d), (j, e)] = some cs) : Tri P N ⟨dst, .build t #[(i, x), (j, y)], ty, pos, af, gd⟩ [(x, d), (y, e)] [] (.agg cs) [] := T.buildS t [(i, x, d), (j, y, e)] ht hz hp h
theorem T.buildS3 {fs : List Field} {pl : List (Nat × Nat)} {z : Value} {cs : List D} {i j k : Nat} {d e f : D} (t : TypeId) (x y u : Operand) (ht : P.underlying t = some (.struct fs.toArray)) (hz : zeroT P t = some z) (hp : placesD P fs = some pl)
    (h : fillD (fun i => pl[i]?) (flats z.cells) [(i, d), (j, e), (k, f)] = some cs) : Tri P N ⟨dst, .build t #[(i, x), (j, y), (k, u)], ty, pos, af, gd⟩ [(x, d), (y, e), (u, f)] [] (.agg cs) [] := T.buildS t [(i, x, d), (j, y, e), (k, u, f)] ht hz hp h

/-! slices built -/
theorem run_buildSl {M : Nat → Prop} {w : World} {G : Cx} {ρ : Operand → Value} {len n e : Nat} {z : Value} {cs : List D} (t : TypeId) (ps : List (Nat × Operand × D)) (ht : P.underlying t = some (.slice e)) (hz : zeroT P e = some z) (hn : sizeOfT P e = some n)
    (hl : len * n ≤ 16777216) (h : ∀ base : List D, base.length = len * n → fillD (fun i => some (i * n, n)) base (partsF ps) = some cs) (hv : Vals M w G ρ (partsE ps)) :
    ∃ us : List Value, (execOp ρ ⟨dst, .buildSlice t len (partsO ps).toArray, ty, pos, af, gd⟩).run P w = .ok (.value (.slice (some ⟨w.heap.size, 0, none⟩) len len)) (w.alloc (.cells us.toArray e)) ∧ RepL M w G cs us := by
  obtain ⟨us, h1, h2⟩ := fill_rep (M := M) (w := w) (G := G) (ρ := ρ) (h (flats ((Array.range (len * n)).map ((if len * n = 0 then #[] else z.cells)[· % (if len * n = 0 then #[] else z.cells).size]!))) (by simp [flats])) (flats_rep _) hv
  refine ⟨us, ?_, h2⟩
  simp only [Array.toArray_toList] at h1
  simp only [execOp, Instr.buildSlice, Sem.run_bind, run_underlying ht, Result.andThen_ok, run_sizeOf hn]
  rw [if_neg (by omega)]
  by_cases h0 : len * n = 0
  · rw [if_pos h0] at h1
    rw [if_pos h0]
    simp only [Sem.run_bind, Sem.run_pure, Result.andThen_ok, parts_map]
    rw [h1]
    simp only [newRow, Sem.run_bind, run_newObj, Result.andThen_ok, Sem.run_pure]
  · rw [if_neg h0] at h1
    rw [if_neg h0]
    simp only [Sem.run_bind, run_zeroT hz, Sem.run_pure, Result.andThen_ok, parts_map]
    rw [h1]
    simp only [newRow, Sem.run_bind, run_newObj, Result.andThen_ok, Sem.run_pure]
theorem new_sl {M : Nat → Prop} {w : World} {G : Cx} {cs : List D} {us : List Value} {n len : Nat} {e : TypeId} (hM : ∀ b, M b → b < w.heap.size) (hr : RepL M w none cs us) (hl : cs.length = len * n) (hm : len ≤ 9223372036854775807) :
    Rep M (w.alloc (.cells us.toArray e)) G (.sl true n len cs) (.slice (some ⟨w.heap.size, 0, none⟩) len len) := by
  have hfx : Fix w (w.alloc (.cells us.toArray e)) := (Mut.refl _ w).alloc _
  simp only [Rep]
  refine ⟨_, len, rfl, Nat.le_refl _, fun _ => rfl, hl, hm, .inr ⟨w.heap.size, 0, rfl, fun h => by have := hM _ h; omega, RepC.of fun i d hd => ?_⟩⟩
  obtain ⟨u, hu, hr'⟩ := (hr.fix hfx).get i hd
  exact ⟨u, by rw [Nat.zero_add]; simp only [World.cell?]; rw [heap_alloc_new]; simpa using hu, hr'⟩
theorem T.buildSl {len n e : Nat} {z : Value} {cs : List D} (t : TypeId) (ps : List (Nat × Operand × D)) (ht : P.underlying t = some (.slice e)) (hz : zeroT P e = some z) (hn : sizeOfT P e = some n) (hl : len * n ≤ 16777216) (hm : len ≤ 9223372036854775807)
    (h : ∀ base : List D, base.length = len * n → fillD (fun i => some (i * n, n)) base (partsF ps) = some cs) (hp : persL cs = true) (hlc : cs.length = len * n) :
    Tri P N ⟨dst, .buildSlice t len (partsO ps).toArray, ty, pos, af, gd⟩ (partsE ps) [] (.sl true n len cs) [] := Tri.run fun M w G ρ hM hv => by
  obtain ⟨us, h1, h2⟩ := run_buildSl (P := P) (dst := dst) (ty := ty) (pos := pos) (af := af) (gd := gd) t ps ht hz hn hl h hv
  exact ⟨_, _, h1, (Mut.refl _ w).alloc _, new_sl hM (RepL.down cs us hp h2) hlc hm⟩
theorem T.buildOwn {len n e : Nat} {z : Value} {cs : List D} (id : Nat) (t : TypeId) (ps : List (Nat × Operand × D)) (ht : P.underlying t = some (.slice e)) (hz : zeroT P e = some z) (hn : sizeOfT P e = some n) (hl : len * n ≤ 16777216) (hm : len ≤ maxLen)
    (h : ∀ base : List D, base.length = len * n → fillD (fun i => some (i * n, n)) base (partsF ps) = some cs) (hlc : cs.length = len * n) (hid : newId N id = true := by first | exact rfl | decide +kernel) :
    Tri P N ⟨dst, .buildSlice t len (partsO ps).toArray, ty, pos, af, gd⟩ (partsE ps) [(id, none)] (.own id len) [(id, some (.row e n len cs))] := Tri.make hid fun M w G ρ hv => by
  obtain ⟨us, h1, h2⟩ := run_buildSl (P := P) (dst := dst) (ty := ty) (pos := pos) (af := af) (gd := gd) t ps ht hz hn hl h hv
  exact ⟨_, us, e, h1, .inr ⟨n, len, cs, rfl, rfl, rfl, by rw [← h2.length]; exact hlc, hm, h2⟩⟩
theorem fill1 {n : Nat} {d : D} {cs base : List D} (h : cellsD d = some cs) (hl : cs.length = n) (hb : base.length = 1 * n) : fillD (fun i => some (i * n, n)) base [(0, d)] = some cs := by
  simp only [fillD, h, Nat.zero_mul, Nat.zero_add]
  rw [if_pos ⟨hl, by omega⟩]
  congr 1
  unfold spliceD
  simp; omega
theorem fill2 {n : Nat} {d d2 : D} {cs cs2 base : List D} (h : cellsD d = some cs) (hl : cs.length = n) (h2 : cellsD d2 = some cs2) (hl2 : cs2.length = n) (hb : base.length = 2 * n) : fillD (fun i => some (i * n, n)) base [(0, d), (1, d2)] = some (cs ++ cs2) := by
  simp only [fillD, h, h2, Nat.zero_mul, Nat.zero_add, Nat.one_mul]
  have hs : (spliceD base 0 cs).length = base.length := splice_len (by omega)
  rw [if_pos ⟨hl, by omega⟩, if_pos ⟨hl2, by omega⟩]
  congr 1
  unfold spliceD
  simp [hl]; omega
theorem T.buildSl1 {n e : Nat} {z : Value} {cs : List D} {d : D} (t : TypeId) (x : Operand) (ht : P.underlying t = some (.slice e)) (hz : zeroT P e = some z) (hn : sizeOfT P e = some n) (hd : cellsD d = some cs) (hl : cs.length = n) (hs : n ≤ 16777216) (hp : persL cs = true) :
    Tri P N ⟨dst, .buildSlice t 1 #[(0, x)], ty, pos, af, gd⟩ [(x, d)] [] (.sl true n 1 cs) [] :=
  T.buildSl t [(0, x, d)] ht hz hn (by omega) (by omega) (fun base hb => fill1 hd hl hb) hp (by omega)
theorem T.buildSl2 {n e : Nat} {z : Value} {cs cs2 : List D} {d d2 : D} (t : TypeId) (x y : Operand) (ht : P.underlying t = some (.slice e)) (hz : zeroT P e = some z) (hn : sizeOfT P e = some n) (hd : cellsD d = some cs) (hl : cs.length = n) (hd2 : cellsD d2 = some cs2) (hl2 : cs2.length = n) (hs : n ≤ 8388608) (hp : persL (cs ++ cs2) = true) :
    Tri P N ⟨dst, .buildSlice t 2 #[(0, x), (1, y)], ty, pos, af, gd⟩ [(x, d), (y, d2)] [] (.sl true n 2 (cs ++ cs2)) [] :=
  T.buildSl t [(0, x, d), (1, y, d2)] ht hz hn (by omega) (by omega) (fun base hb => fill2 hd hl hd2 hl2 hb) hp (by simp; omega)
theorem T.buildOwn0 {n e : Nat} {z : Value} (id : Nat) (t : TypeId) (ht : P.underlying t = some (.slice e)) (hz : zeroT P e = some z) (hn : sizeOfT P e = some n) (hid : newId N id = true := by first | exact rfl | decide +kernel) :
    Tri P N ⟨dst, .buildSlice t 0 #[], ty, pos, af, gd⟩ [] [(id, none)] (.own id 0) [(id, some (.row e n 0 []))] :=
  T.buildOwn id t [] ht hz hn (by omega) (by omega) (fun base hb => by simp at hb; subst hb; rfl) (by simp) hid
theorem T.buildOwn1 {n e : Nat} {z : Value} {cs : List D} {d : D} (id : Nat) (t : TypeId) (x : Operand) (ht : P.underlying t = some (.slice e)) (hz : zeroT P e = some z) (hn : sizeOfT P e = some n) (hd : cellsD d = some cs) (hl : cs.length = n) (hs : n ≤ 16777216) (hid : newId N id = true := by first | exact rfl | decide +kernel) :
    Tri P N ⟨dst, .buildSlice t 1 #[(0, x)], ty, pos, af, gd⟩ [(x, d)] [(id, none)] (.own id 1) [(id, some (.row e n 1 cs))] :=
  T.buildOwn id t [(0, x, d)] ht hz hn (by omega) (by decide) (fun base hb => fill1 hd hl hb) (by omega) hid

/-! a row of the call's own is changed -/
theorem StG.row {w0 : World} {M0 : Nat → Prop} {B0 : Bd} {g : Gh} {s : DS} {a : Act} {w w' : World} (h : StG w0 M0 B0 N g s a w) {id e n L L' : Nat} {cs cs' : List D} {v' : Value} {vs' : List Value} (he : lkE s.σ id = some (.row e n L cs)) (m : Mut (fun b => (g.row id).ownBlock = some b) w w')
    (hL : L ≤ L') (hv : L' = L → v' = g.row id) (hown : OwnR w' e n v' L' vs') (hb : ∀ b, v'.ownBlock = some b → b < w.heap.size → (g.row id).ownBlock = some b)
    (hr : ∀ M : Nat → Prop, (∀ b, b < w.heap.size → M b → Mx M0 g s.σ b) → RepL M w' (some (⟨g.blk, fun k => if k = id then v' else g.row k⟩, (id, some (.row e n L' cs')) :: s.σ)) cs' vs')
    {dst : Option Tmp} (hd : dstOk N dst = true) {d : D} {v : Value} (hd2 : ∀ M : Nat → Prop, (∀ b, b < w.heap.size → M b → Mx M0 g s.σ b) → Rep M w' (some (⟨g.blk, fun k => if k = id then v' else g.row k⟩, (id, some (.row e n L' cs')) :: s.σ)) d v) :
    StG w0 M0 B0 N ⟨g.blk, fun k => if k = id then v' else g.row k⟩ ⟨updF s.f dst d, (id, some (.row e n L' cs')) :: s.σ⟩ (a.put dst v) w' := by
  have hbo : blkOf g s.σ id = (g.row id).ownBlock := by unfold blkOf; rw [he]
  refine h.set1 (g' := ⟨g.blk, fun k => if k = id then v' else g.row k⟩) id (.row e n L' cs') (fun h0 => by rw [he] at h0; cases h0) (m.mono fun b _ hb => by rw [hbo]; exact hb) (fun k hk => rfl) (fun k hk => by simp [hk]) ⟨fun k cs hk => ?_, fun k e1 n1 l1 c1 hk => ?_, fun k hk => by
        have hne : ¬ id = k := fun e1 => by subst e1; simp only at hk; rw [he] at hk; cases hk
        simp only at hk ⊢
        rw [lkE_cons, if_neg hne]; exact hk⟩ ?_ ?_ hd hd2
  · have hne : ¬ id = k := fun e1 => by subst e1; simp only at hk; rw [he] at hk; cases hk
    exact ⟨⟨cs, by rw [lkE_cons, if_neg hne]; exact hk⟩, rfl⟩
  · by_cases e2 : id = k
    · subst e2
      simp only at hk
      rw [he] at hk; cases hk
      exact .inr ⟨e, n, L', cs', by rw [lkE_cons, if_pos rfl], hL, fun e3 => by simp; exact hv e3⟩
    · exact .inr ⟨e1, n1, l1, c1, by rw [lkE_cons, if_neg e2]; exact hk, Nat.le_refl _, fun _ => by simp [show ¬ k = id from fun e => e2 e.symm]⟩
  · intro b hb'
    simp only [blkOf, lkE_cons, if_pos] at hb'
    refine ⟨?_, fun hlt => by rw [hbo]; exact hb b hb' hlt⟩
    rcases hown.2 with ⟨h1, _⟩ | ⟨g1, cap, cur, fz, h1, h3, _⟩
    · rw [h1] at hb'; simp [Value.ownBlock] at hb'
    · rw [h1] at hb'
      simp only [Value.ownBlock, Option.some.injEq] at hb'
      subst hb'
      exact (Array.getElem?_eq_some_iff.1 h3).1
  · intro M hM
    exact ⟨vs', by simpa using hown, hr M hM⟩

theorem splice_cons {α : Type} {vs us : List α} {o : Nat} {u : α} (h : o + (us.length + 1) ≤ vs.length) : spliceD (vs.set o u) (o + 1) us = spliceD vs o (u :: us) := by
  apply List.ext_getElem?
  intro k
  rw [splice_get (by simp; omega), splice_get (by simp; omega)]
  simp only [List.length_cons, List.getElem?_set]
  by_cases h1 : k < o
  · rw [if_pos (by omega), if_neg (by omega), if_pos h1]
  · by_cases h2 : k = o
    · subst h2
      simp; omega
    · rw [if_neg (by omega), if_neg h1]
      by_cases h3 : k < o + 1 + us.length
      · rw [if_pos h3, if_pos (by omega)]
        rw [show k - o = (k - (o + 1)) + 1 by omega]; simp
      · rw [if_neg h3, if_neg (by omega), if_neg (by omega)]
theorem setCells_heap (b : Nat) (T : TypeId) {fz : Nat × Nat} : ∀ (us vs : List Value) (o : Nat) (w : World), w.heap[b]? = some (.cells vs.toArray T fz) → o + us.length ≤ vs.length → (w.setCells b o us).heap[b]? = some (.cells (spliceD vs o us).toArray T fz)
  | [], vs, o, w, h, hl => by rw [World.setCells, h]; simp [spliceD]
  | u :: us, vs, o, w, h, hl => by
    rw [World.setCells, setCells_heap b T us (vs.set o u) (o + 1) _ ?_ (by simp at hl ⊢; omega), splice_cons (by simpa using hl)]
    simp [World.setCell, Array.getElem?_modify, h]
theorem setCells_mut (b : Nat) : ∀ (us : List Value) (o : Nat) (w : World), Mut (fun k => k = b) w (w.setCells b o us)
  | [], o, w => Mut.refl _ w
  | u :: us, o, w => ((Mut.refl (fun k => k = b) w).setCell (p := ⟨b, o, none⟩) (fun _ => rfl) u).trans (setCells_mut b us (o + 1) _)

theorem frozen_no {w : World} {b i : Nat} {cur : Array Value} {e : TypeId} {fz : Nat × Nat} (hb : w.heap[b]? = some (.cells cur e fz)) (hfz : fz = (0, 0) ∨ cur.size ≤ fz.1) (hi : i < cur.size) : w.frozen? ⟨b, i, none⟩ = false := by
  simp only [World.frozen?, hb]
  rcases hfz with rfl | h
  · simp
  · simp; omega
/-- What is appended: the cells of a slice or the bytes of a string. -/
structure Src (P : Program) (w : World) (xt : TypeId) (size m : Nat) (x : Value) (news : List Value) : Prop where
  ty : (∃ e, P.underlying xt = some (.slice e)) ∨ P.underlying xt = some .string
  len : ∀ w', (Builtin.lenOf x).run P w' = .ok m w'
  fst : ∀ w', w'.heap = w.heap → (Builtin.firstCells size m x).run P w' = .ok news.toArray w'
/-- 'append': the row, the frame, and where the new value lies. -/
theorem run_appendR {w : World} (t xt ty e : TypeId) {z : Value} {size bytes : Nat} (ht : P.underlying t = some (.slice e)) (hinfo : (P.info? e).map (fun i => (i.zero, i.size, i.bytes)) = some (some z, size, bytes)) (hzs : z.cells.size = size) (hsz : 0 < size)
    (v : Value) (n : Nat) (cs : List Value) (hown : OwnR w e size v n cs) (x : Value) (m : Nat) (news : List Value) (hs : Src P w xt size m x news) (hl : news.length = m * size) (h1 : ∀ u ∈ news, u.oneCell' = true)
    (hby : (n + m) * bytes ≤ 140737488355328) (hbp : 0 < bytes) :
    ∃ v' w', (Builtin.append_ #[t, xt] ty #[v, x]).run P w = .ok v' w' ∧ OwnR w' e size v' (n + m) (cs ++ news) ∧ Mut (fun k => v.ownBlock = some k) w w' ∧
      (∀ k, v'.ownBlock = some k → v.ownBlock = some k ∨ w.heap.size ≤ k) ∧ (m = 0 → v' = v) := by
  obtain ⟨i, hi, hz, hsize, hbytes⟩ := info_parts hinfo
  have hn : n + m ≤ 140737488355328 := Nat.le_trans (Nat.le_mul_of_pos_right _ hbp) hby
  have hlen : (cs ++ news).length = (n + m) * size := by rw [List.length_append, hown.1, hl, Nat.add_mul]
  subst hsize; subst hbytes
  have grown : ∀ (old : Nat), old < n + m →
      OwnR (w.drew.alloc (.cells (cs.toArray ++ news.toArray ++ Builtin.zeroCells z.cells (grownCap w (n + m) old e - (n + m))) e)) e i.size (.slice (some ⟨w.heap.size, 0, none⟩) (n + m) (grownCap w (n + m) old e)) (n + m) (cs ++ news) := by
    intro old ho
    have hge := grownCap_ge w (n + m) old e
    have hcm : grownCap w (n + m) old e ≤ maxLen := grownCap_le_maxLen w (n + m) old e (by unfold maxLen; omega)
    refine ⟨hlen, .inr ⟨w.heap.size, _, _, (0, 0), rfl, heap_alloc_new w.drew _, .inl rfl, hge, hcm, ?_, ?_⟩⟩
    · simp only [Array.size_append, List.size_toArray, size_zeroCells, hzs, hown.1, hl, ← Nat.add_mul]
      congr 1; omega
    · simp only [Array.toList_append, List.append_assoc]
      rw [← List.append_assoc, ← hlen]
      exact List.take_left
  have hf0 := hs.fst w rfl
  have hf1 := hs.fst w.drew rfl
  have hl0 := hs.len w
  have hm2 : ∀ o, Mut (fun k => v.ownBlock = some k) w (w.drew.alloc o) := fun o => (Mut.refl _ w).drew.alloc o
  rcases hown.2 with ⟨rfl, rfl⟩ | ⟨g, cap, cur, fz, rfl, hg, hfz, hnc, hcm, hcs, htake⟩
  · have hcs0 : cs = [] := List.eq_nil_of_length_eq_zero (by simpa using hown.1)
    subst hcs0
    by_cases hm : m = 0
    · subst hm
      have hnn : news = [] := List.eq_nil_of_length_eq_zero (by simpa using hl)
      subst hnn
      refine ⟨.slice none 0 0, w, ?_, by simpa using OwnR.nil w e i.size, Mut.refl _ w, fun k hk => .inl hk, fun _ => rfl⟩
      rcases hs.ty with ⟨e2, hty⟩ | hty <;> simp [Builtin.append_, run_underlying ht, run_underlying hty, sizeOf, typeInfo, hi, hl0, hf0]
    · have hgr := grown 0 (by omega)
      simp only [Nat.zero_add] at hgr hby ⊢
      have h63' : ¬ (9223372036854775807 < (m : Int)) := by omega
      have h48' : ¬ (281474976710656 < Builtin.nextslicecap m 0 * i.bytes) := by rw [nextslicecap_zero (by omega)]; omega
      refine ⟨_, _, ?_, hgr, hm2 _, fun k hk => .inr (by simp [Value.ownBlock] at hk; omega), fun h => absurd h hm⟩
      rcases hs.ty with ⟨e2, hty⟩ | hty <;> simp [Builtin.append_, run_underlying ht, run_underlying hty, sizeOf, typeInfo, zeroValue, hi, hz, hl0, hf1, hm, h63', h48', Question.forced, run_firstCells_none, newRow, grownCap]
  · by_cases hroom : n + m ≤ cap
    · have hfit : n * i.size + news.length ≤ cur.toList.length := by rw [hl, ← Nat.add_mul]; simp only [Array.length_toList, hcs]; exact Nat.mul_le_mul_right _ hroom
      have hst := run_storeCells_cells (P := P) g (n * i.size) news 0 w (fun j hj => by simp only [World.cell?, hg]; simp at hfit ⊢; omega) (fun j hj => frozen_no hg hfz (by simp at hfit; omega)) h1
      simp only [Nat.add_zero] at hst
      have hg' : w.heap[g]? = some (.cells cur.toList.toArray e fz) := by simpa using hg
      refine ⟨.slice (some ⟨g, 0, none⟩) (n + m) cap, w.setCells g (n * i.size) news, ?_, ⟨hlen, .inr ⟨g, cap, _, fz, rfl, setCells_heap g e news cur.toList (n * i.size) w hg' hfit, ?_, hroom, hcm, ?_, ?_⟩⟩, (setCells_mut g news _ w).mono fun b _ hb => by subst hb; rfl, fun k hk => .inl hk, fun h => ?_⟩
      · rcases hs.ty with ⟨e2, hty⟩ | hty <;> simp [Builtin.append_, run_underlying ht, run_underlying hty, sizeOf, typeInfo, hi, hl0, hroom, hf0, Addr.add_lit, hst]
      · simpa [splice_len hfit] using hfz
      · simp [splice_len hfit, hcs]
      · have hol := hown.1
        apply List.ext_getElem?
        intro k
        rw [List.toList_toArray, List.getElem?_take, splice_get hfit]
        by_cases hk : k < n * i.size
        · rw [if_pos (by rw [Nat.add_mul]; omega), if_pos hk, List.getElem?_append_left (by omega), ← htake, List.getElem?_take, if_pos hk]
        · rw [if_neg hk]
          by_cases hk2 : k < n * i.size + news.length
          · rw [if_pos (by rw [Nat.add_mul]; omega), if_pos hk2, List.getElem?_append_right (by omega), hol]
          · rw [if_neg (by rw [Nat.add_mul]; omega), List.getElem?_eq_none (by simp; omega)]
      · subst h; rfl
    · have holds : ∀ j u, cs[j]? = some u → w.cell? ((⟨g, 0, none⟩ : Addr).add j) = some u := fun j u hu => by
        have hj := (List.getElem?_eq_some_iff.1 hu).1
        have h5 : (cur.toList.take (n * i.size))[j]? = some u := by rw [htake]; exact hu
        rw [List.getElem?_take, if_pos (by rw [← hown.1]; exact hj)] at h5
        rw [add_off, Nat.zero_add]
        simp only [World.cell?, hg]
        simpa using h5
      have hgr := grown cap (by omega)
      have hfo := run_firstCells_some (P := P) w.drew i.size n ⟨g, 0, none⟩ n cap cs hown.1 (by simpa using holds)
      have hn' : ¬ (n + m ≤ cap) := hroom
      have h63' : ¬ (9223372036854775807 < ((n : Int) + (m : Int))) := by omega
      have h48' : ¬ (281474976710656 < Builtin.nextslicecap (n + m) cap * i.bytes) := by have := growslice_fits (old := cap) (need := n + m) (by omega) hby; omega
      refine ⟨_, _, ?_, hgr, hm2 _, fun k hk => .inr (by simp [Value.ownBlock] at hk; omega), fun h => absurd (by omega) hroom⟩
      rcases hs.ty with ⟨e2, hty⟩ | hty
      all_goals
        simp [Builtin.append_, run_underlying ht, run_underlying hty, sizeOf, typeInfo, zeroValue, hi, hz, hl0, hn', h63', h48', Question.forced, hf1, hfo, newRow, grownCap]
        congr 2
        apply Array.ext'
        simp [List.append_assoc]
theorem Src.sl {w : World} {xt e size m c : Nat} {ad : Option Addr} {news : List Value} (hty : P.underlying xt = some (.slice e)) (hl : news.length = m * size) (hnil : ad = none → news = []) (hnews : ∀ a, ad = some a → ∀ j u, news[j]? = some u → w.cell? (a.add j) = some u) : Src P w xt size m (.slice ad m c) news := by
  refine ⟨.inl ⟨e, hty⟩, fun w' => rfl, fun w' hw => ?_⟩
  cases ad with
  | none => rw [hnil rfl]; simp [Builtin.firstCells]
  | some a => exact run_firstCells_some (P := P) w' size m a m c news hl (fun j u hj => by rw [World.cell?_of_block (w := w) (by rw [hw])]; exact hnews a rfl j u hj)
theorem run_app {w w' : World} {ρ : Operand → Value} {x y : Operand} {t xt : TypeId} {v u v' : Value} (hx : ρ x = v) (hy : ρ y = u) (h : (Builtin.append_ #[t, xt] ty #[v, u]).run P w = .ok v' w') :
    (execOp ρ ⟨dst, .call { callee := .builtin .append, args := #[x, y], argTypes := #[t, xt] }, ty, pos, af, gd⟩).run P w = .ok (.value v') w' := by
  simp only [execOp, resolve, invoke, builtin, Sem.run_bind, Sem.run_pure, Result.andThen_ok, List.map_toArray, List.map_cons, List.map_nil, hx, hy, h]
/-- The row after an append. -/
theorem StG.grown {w0 : World} {M0 : Nat → Prop} {B0 : Bd} {g : Gh} {s : DS} {a : Act} {w w' : World} (hs : StG w0 M0 B0 N g s a w) {id e n L m : Nat} {cs ds : List D} {vs news : List Value} {v' : Value} (he : lkE s.σ id = some (.row e n L cs)) (o2 : RepL (Mx M0 g s.σ) w (some (g, s.σ)) cs vs)
    (hnew : RepL (Mx M0 g s.σ) w (some (g, s.σ)) ds news) (p2 : OwnR w' e n v' (L + m) (vs ++ news)) (hm : Mut (fun k => (g.row id).ownBlock = some k) w w') (p4 : ∀ k, v'.ownBlock = some k → (g.row id).ownBlock = some k ∨ w.heap.size ≤ k) (p5 : m = 0 → v' = g.row id) (hd : dstOk N dst = true) :
    St w0 M0 B0 N ⟨updF s.f dst (.own id (L + m)), [(id, some (.row e n (L + m) (cs ++ ds)))] ++ s.σ⟩ (a.put dst v') w' := by
  have hgr : Grow (g, s.σ) (⟨g.blk, fun k => if k = id then v' else g.row k⟩, (id, some (.row e n (L + m) (cs ++ ds))) :: s.σ) := ⟨fun k cs hk => by
      have hne : ¬ id = k := fun e1 => by subst e1; simp only at hk; rw [he] at hk; cases hk
      exact ⟨⟨cs, by rw [lkE_cons, if_neg hne]; exact hk⟩, rfl⟩, fun k e1 n1' l1 c1 hk => by
      by_cases e2 : id = k
      · subst e2
        simp only at hk
        rw [he] at hk; cases hk
        exact .inr ⟨e, n, L + m, _, by rw [lkE_cons, if_pos rfl], by omega, fun e3 => by simp; rw [p5 (by omega)]⟩
      · exact .inr ⟨e1, n1', l1, c1, by rw [lkE_cons, if_neg e2]; exact hk, Nat.le_refl _, fun _ => by simp [show ¬ k = id from fun e => e2 e.symm]⟩, fun k hk => by
      have hne : ¬ id = k := fun e1 => by subst e1; simp only at hk; rw [he] at hk; cases hk
      simp only at hk ⊢
      rw [lkE_cons, if_neg hne]; exact hk⟩
  have hS : ∀ b, b < w.heap.size → (g.row id).ownBlock = some b → Mx M0 g s.σ b := fun b _ hb => .inr ⟨id, by unfold blkOf; rw [he]; exact hb⟩
  obtain ⟨a5, c5, hv5⟩ : ∃ a c, v' = .slice a (L + m) c := by
    rcases p2.2 with ⟨h, h0⟩ | ⟨g1, cap, cur, fz, h, _⟩
    · exact ⟨none, 0, by rw [h, h0]⟩
    · exact ⟨_, _, h⟩
  refine ⟨_, hs.row (v' := v') (vs' := vs ++ news) (L' := L + m) (cs' := cs ++ ds) he hm (by omega) (fun e => p5 (by omega)) p2 (fun b hb hlt => ?_) (fun M hM => ?_) hd (fun M hM => ?_)⟩
  · rcases p4 b hb with h | h
    · exact h
    · omega
  · exact RepL.append (RepL.step (G := some _) (G' := some _) hgr hm hS hM cs vs o2) (RepL.step (G := some _) (G' := some _) hgr hm hS hM ds news hnew)
  · simp only [Rep]
    exact ⟨_, _, rfl, .inr ⟨e, n, L + m, cs ++ ds, by rw [lkE_cons, if_pos rfl], Nat.le_refl _, fun _ => by simp⟩, a5, c5, hv5⟩
theorem T.appendG {id e n L m bytes : Nat} {z : Value} {f : Bool} {cs ds : List D} {dy : D} (t x y) (ht : P.underlying t = some (.slice e)) (hinfo : (P.info? e).map (fun i => (i.zero, i.size, i.bytes)) = some (some z, n, bytes)) (hzs : z.cells.size = n) (hsz : 0 < n) (hbp : 0 < bytes)
    (hle : Le dy (.sl f n m ds)) (ho : oneL ds = true) (hby : (L + m) * bytes ≤ 140737488355328) :
    Tri P N ⟨dst, .call { callee := .builtin .append, args := #[x, y], argTypes := #[t, t] }, ty, pos, af, gd⟩ [(x, .own id L), (y, dy)] [(id, some (.row e n L cs))] (.own id (L + m)) [(id, some (.row e n (L + m) (cs ++ ds)))] := by
  refine ⟨?_⟩
  intro w0 M0 B0 s a w next Q h1 h2 hd ⟨g, hs⟩ hk
  have he := h2.1
  have hvx := hs.eval x
  have hvy := hs.eval y
  rw [show evalD s.f x = .own id L from h1.1] at hvx
  rw [show evalD s.f y = dy from h1.2.1] at hvy
  replace hvy := hle _ _ _ _ hs.mlt hvy
  obtain ⟨hu, vs, o1, o2⟩ := own_row hs he hvx
  simp only [Rep] at hvy
  obtain ⟨ad, c, r1, r2, r3, r4, r5, r6⟩ := hvy
  obtain ⟨news, n1, n2, n3⟩ : ∃ news : List Value, RepL (Mx M0 g s.σ) w none ds news ∧ (ad = none → news = []) ∧ ∀ a, ad = some a → ∀ j u, news[j]? = some u → w.cell? (a.add j) = some u := by
    rcases r6 with r6 | ⟨b, off, rfl, r7, r8⟩
    · have hds : ds = [] := List.eq_nil_of_length_eq_zero (by rw [r4]; exact r6)
      subst hds
      exact ⟨[], by simp only [RepL], fun _ => rfl, fun a _ j u h => by simp at h⟩
    · obtain ⟨news, q1, q2⟩ := RepC.vals r8
      exact ⟨news, q1, (fun h => by cases h), fun a ha j u hj => by cases ha; rw [add_off]; exact q2 j u hj⟩
  have hln : news.length = m * n := by rw [← n1.length]; exact r4
  obtain ⟨v', w', hr, p2, p3, p4, p5⟩ := run_appendR (P := P) t t ty e ht hinfo hzs hsz _ L vs o1 _ m news (Src.sl (c := c) ht hln n2 n3) hln (RepL.one ho n1) hby hbp
  refine opIn_val (run_app rfl r1 hr) ?_
  rw [hu] at p3 p4 p5
  exact hk _ _ (hs.grown he o2 n1.up p2 p3 p4 p5 hd)
theorem Src.str {w : World} {xt : Nat} {s : ByteArray} (hty : P.underlying xt = some .string) : Src P w xt 1 s.size (.string s) (s.data.toList.map fun b => .int .u8 b.toNat) := by
  refine ⟨.inr hty, fun w' => rfl, fun w' hw => ?_⟩
  have hx : (s.extract 0 s.size) = s := by simp
  simp [Builtin.firstCells, hx]
  apply Array.ext'
  simp
/-- append of a string's bytes. -/
theorem T.appendStr {id e L bytes : Nat} {z : Value} {cs : List D} {b : ByteArray} (t xt : TypeId) (x y : Operand) (ht : P.underlying t = some (.slice e)) (hxt : P.underlying xt = some .string) (hinfo : (P.info? e).map (fun i => (i.zero, i.size, i.bytes)) = some (some z, 1, bytes)) (hzs : z.cells.size = 1) (hbp : 0 < bytes)
    (hby : (L + b.size) * bytes ≤ 140737488355328) :
    Tri P N ⟨dst, .call { callee := .builtin .append, args := #[x, y], argTypes := #[t, xt] }, ty, pos, af, gd⟩ [(x, .own id L), (y, .flat (.string b))] [(id, some (.row e 1 L cs))] (.own id (L + b.size)) [(id, some (.row e 1 (L + b.size) (cs ++ b.data.toList.map fun c => .flat (.int .u8 c.toNat))))] := by
  refine ⟨?_⟩
  intro w0 M0 B0 s a w next Q h1 h2 hd ⟨g, hs⟩ hk
  have he := h2.1
  have hvx := hs.eval x
  have hvy := hs.eval y
  rw [show evalD s.f x = .own id L from h1.1] at hvx
  rw [show evalD s.f y = .flat (.string b) from h1.2.1] at hvy
  simp only [Rep] at hvy
  obtain ⟨hu, vs, o1, o2⟩ := own_row hs he hvx
  obtain ⟨v', w', hr, p2, p3, p4, p5⟩ := run_appendR (P := P) t xt ty e ht hinfo hzs (by omega) _ L vs o1 _ b.size _ (Src.str hxt) (by simp) (by simp; intro c _; rfl) hby hbp
  refine opIn_val (run_app rfl hvy hr) ?_
  rw [hu] at p3 p4 p5
  refine hk _ _ (hs.grown he o2 ?_ p2 p3 p4 p5 hd)
  generalize b.data.toList = l
  induction l with
  | nil => simp only [List.map_nil, RepL]
  | cons c l ih => simp only [List.map_cons, RepL, Rep]; exact ⟨_, _, rfl, rfl, ih⟩

theorem T.append {id e n L m bytes : Nat} {z : Value} {f : Bool} {cs ds : List D} (t : TypeId) (x y : Operand) (ht : P.underlying t = some (.slice e)) (hinfo : (P.info? e).map (fun i => (i.zero, i.size, i.bytes)) = some (some z, n, bytes)) (hzs : z.cells.size = n) (hsz : 0 < n) (hbp : 0 < bytes)
    (ho : oneL ds = true) (hby : (L + m) * bytes ≤ 140737488355328) :
    Tri P N ⟨dst, .call { callee := .builtin .append, args := #[x, y], argTypes := #[t, t] }, ty, pos, af, gd⟩ [(x, .own id L), (y, .sl f n m ds)] [(id, some (.row e n L cs))] (.own id (L + m)) [(id, some (.row e n (L + m) (cs ++ ds)))] := T.appendG t x y ht hinfo hzs hsz hbp (Le.refl _) ho hby
end
end Go.Dm

set_option linter.unusedSimpArgs false
set_option linter.unusedVariables false
set_option linter.unusedSectionVars false
set_option maxHeartbeats 400000
namespace Go.Dm
open Go Go.RowKit Go.PP
variable [GlobW] [Rnd]

section
variable {P : Program} {N : Nat} {dst : Option Tmp} {ty : TypeId} {pos : String} {af : Array Edge} {gd : Option (Nat × Bool)}

theorem run_storeAt {w : World} {b off n : Nat} {t : TypeId} {v : Value} {us vs : List Value} {T : TypeId} {fz : Nat × Nat} (hn : sizeOfT P t = some n) (hv : v.cells = us.toArray) (hl : us.length = n) (h1 : ∀ u ∈ us, u.oneCell' = true) (hb : w.heap[b]? = some (.cells vs.toArray T fz)) (hfz : fz = (0, 0) ∨ vs.length ≤ fz.1) (ho : off + us.length ≤ vs.length) :
    (Instr.storeAt t (.pointer (some ⟨b, off, none⟩)) v).run P w = .ok () (w.setCells b off us) := by
  have := run_storeCells_cells (P := P) b off us 0 w (fun j hj => by simp only [World.cell?, hb]; simp; omega) (fun j hj => frozen_no hb (by simpa using hfz) (by simp; omega)) h1
  simp only [Nat.add_zero] at this
  simp only [Instr.storeAt, Instr.sureAddr, storeVar, Sem.run_bind, Sem.run_pure, Result.andThen_ok, run_sizeOf hn, hv, List.size_toArray, hl, ne_eq, not_true_eq_false, if_false, this]
theorem T.storeRef {id off n : Nat} {cs ds : List D} {d : D} (t : TypeId) (x y : Operand) (hn : sizeOfT P t = some n) (hc : cellsD d = some ds) (hl : ds.length = n) (ho : oneL ds = true) (hle : off + n ≤ cs.length) (hk0 : keysOf cs = none := by first | rfl | assumption) :
    Tri P N ⟨dst, .store t x y, ty, pos, af, gd⟩ [(x, .ref id off), (y, d)] [(id, some (.box cs))] (.flat undef) [(id, some (.box (spliceD cs off ds)))] := by
  refine ⟨?_⟩
  intro w0 M0 B0 s a w next Q h1 h2 hd ⟨g, hs⟩ hk
  have he := h2.1
  have hvx := hs.eval x
  have hvy := hs.eval y
  rw [show evalD s.f x = .ref id off from h1.1] at hvx
  rw [show evalD s.f y = d from h1.2.1] at hvy
  simp only [Rep] at hvx
  obtain ⟨g', σ', cs0, hG, _, hx⟩ := hvx
  cases hG
  obtain ⟨vs, T, o1, o2, o4⟩ := hs.ent id _ he
  obtain ⟨T, rfl⟩ := o4.cells hk0
  obtain ⟨us, u1, u2⟩ := cellsD_rep hc hvy
  have hl1 := o2.length
  have hl2 := u2.length
  have hrun := run_storeAt (P := P) (w := w) (b := g.blk id) (off := off) (v := a.eval y) (us := us) (vs := vs) (T := T) hn u1 (by omega) (RepL.one ho u2) o1 (.inl rfl) (by omega)
  have hex : (execOp a.eval ⟨dst, .store t x y, ty, pos, af, gd⟩).run P w = .ok .skip (w.setCells (g.blk id) off us) := by
    simp only [execOp, hx, Sem.run_bind, hrun, Result.andThen_ok, Sem.run_pure]
  refine opIn_skip hex ?_
  have hbo : blkOf g s.σ id = some (g.blk id) := by unfold blkOf; rw [he]
  have hm : Mut (fun b => blkOf g s.σ id = some b) w (w.setCells (g.blk id) off us) := (setCells_mut (g.blk id) us off w).mono (fun b _ e => by rw [e]; exact hbo)
  have hS : ∀ b, b < w.heap.size → blkOf g s.σ id = some b → Mx M0 g s.σ b := fun b _ hb => .inr ⟨id, hb⟩
  have hgr : Grow (g, s.σ) (g, (id, some (.box (spliceD cs off ds))) :: s.σ) := ⟨fun k c1 hk => by
      by_cases e2 : id = k
      · subst e2; exact ⟨⟨_, by rw [lkE_cons, if_pos rfl]⟩, rfl⟩
      · exact ⟨⟨c1, by rw [lkE_cons, if_neg e2]; exact hk⟩, rfl⟩, fun k e1 n1 l1 c1 hk => by
      by_cases e2 : id = k
      · subst e2; simp only at hk; rw [he] at hk; cases hk
      · exact .inr ⟨e1, n1, l1, c1, by rw [lkE_cons, if_neg e2]; exact hk, Nat.le_refl _, fun _ => rfl⟩, fun k hk => by
      have hne : ¬ id = k := fun e1 => by subst e1; simp only at hk; rw [he] at hk; cases hk
      simp only at hk ⊢
      rw [lkE_cons, if_neg hne]; exact hk⟩
  refine hk _ _ ⟨g, hs.set1 id (.box (spliceD cs off ds)) (fun h0 => by rw [he] at h0; cases h0) hm (fun _ _ => rfl) (fun _ _ => rfl) hgr (fun b hb => ?_) (fun M hM => ?_) hd (fun M hM => by simp only [Rep])⟩
  · simp only [blkOf, lkE_cons, if_pos, Option.some.injEq] at hb
    subst hb
    exact ⟨Nat.lt_of_lt_of_le (Array.getElem?_eq_some_iff.1 o1).1 hm.size, fun _ => hbo⟩
  · exact ⟨_, _, setCells_heap _ T us vs off w o1 (by omega), RepL.splice (RepL.step (G := some _) (G' := some _) hgr hm hS hM cs vs o2) (RepL.step (G := some _) (G' := some _) hgr hm hS hM ds us u2), ObjIs.mk (keysOf_splice hk0 ho)⟩
theorem T.storeElp {id L off n e en : Nat} {cs ds : List D} {d : D} (t : TypeId) (x y : Operand) (hn : sizeOfT P t = some n) (hc : cellsD d = some ds) (hl : ds.length = n) (ho : oneL ds = true) (hle : off + n ≤ cs.length) :
    Tri P N ⟨dst, .store t x y, ty, pos, af, gd⟩ [(x, .elp id L off), (y, d)] [(id, some (.row e en L cs))] (.flat undef) [(id, some (.row e en L (spliceD cs off ds)))] := by
  refine ⟨?_⟩
  intro w0 M0 B0 s a w next Q h1 h2 hd ⟨g, hs⟩ hk
  have he := h2.1
  have hvx := hs.eval x
  have hvy := hs.eval y
  rw [show evalD s.f x = .elp id L off from h1.1] at hvx
  rw [show evalD s.f y = d from h1.2.1] at hvy
  simp only [Rep] at hvx
  obtain ⟨g', σ', hG, h3, _⟩ := hvx
  cases hG
  simp only at he
  obtain ⟨b, h6, hx⟩ := (row_at he h3).2 rfl
  obtain ⟨vs, o1, o2⟩ := hs.ent id _ he
  obtain ⟨us, u1, u2⟩ := cellsD_rep hc hvy
  have hl1 := o2.length
  have hl2 := u2.length
  have o1' := o1
  rcases o1.2 with ⟨q1, q2⟩ | ⟨b', cap, cur, fz, q1, q3, q2, q4, q5, q6, q7⟩
  · rw [q1] at h6; cases h6
  rw [q1] at h6
  simp only [Value.ownBlock, Option.some.injEq] at h6
  subst h6
  have hcl : L * en ≤ cur.toList.length := by simp [q6]; exact Nat.mul_le_mul_right _ q4
  have hvl := o1.1
  have q3' : w.heap[b']? = some (.cells cur.toList.toArray e fz) := by simpa using q3
  have hrun := run_storeAt (P := P) (w := w) (b := b') (off := off) (v := a.eval y) (us := us) (vs := cur.toList) (T := e) hn u1 (by omega) (RepL.one ho u2) q3' (by simpa using q2) (by omega)
  have hex : (execOp a.eval ⟨dst, .store t x y, ty, pos, af, gd⟩).run P w = .ok .skip (w.setCells b' off us) := by
    simp only [execOp, hx, Sem.run_bind, hrun, Result.andThen_ok, Sem.run_pure]
  refine opIn_skip hex ?_
  have hob : (g.row id).ownBlock = some b' := by rw [q1]; rfl
  have hm : Mut (fun b => (g.row id).ownBlock = some b) w (w.setCells b' off us) := (setCells_mut b' us off w).mono (fun b _ e => by rw [e]; exact hob)
  have hS : ∀ b, b < w.heap.size → (g.row id).ownBlock = some b → Mx M0 g s.σ b := fun b _ hb => .inr ⟨id, by unfold blkOf; rw [he]; exact hb⟩
  have hgr : Grow (g, s.σ) (⟨g.blk, fun k => if k = id then g.row id else g.row k⟩, (id, some (.row e en L (spliceD cs off ds))) :: s.σ) := ⟨fun k c1 hk => by
      by_cases e2 : id = k
      · subst e2; simp only at hk; rw [he] at hk; cases hk
      · exact ⟨⟨c1, by rw [lkE_cons, if_neg e2]; exact hk⟩, rfl⟩, fun k e1 n1 l1 c1 hk => by
      by_cases e2 : id = k
      · subst e2
        simp only at hk
        rw [he] at hk; cases hk
        exact .inr ⟨e, en, L, _, by rw [lkE_cons, if_pos rfl], Nat.le_refl _, fun _ => by simp⟩
      · exact .inr ⟨e1, n1, l1, c1, by rw [lkE_cons, if_neg e2]; exact hk, Nat.le_refl _, fun _ => by simp [show ¬ k = id from fun e => e2 e.symm]⟩, fun k hk => by
      have hne : ¬ id = k := fun e1 => by subst e1; simp only at hk; rw [he] at hk; cases hk
      simp only at hk ⊢
      rw [lkE_cons, if_neg hne]; exact hk⟩
  refine hk _ _ ⟨_, hs.row (v' := g.row id) (vs' := spliceD vs off us) (L' := L) (cs' := spliceD cs off ds) he hm (Nat.le_refl _) (fun _ => rfl) ?_ (fun b hb _ => hb) (fun M hM => ?_) hd (fun M hM => by simp only [Rep])⟩
  · refine ⟨by rw [splice_len (by omega)]; exact hvl, .inr ⟨b', cap, (spliceD cur.toList off us).toArray, fz, q1, setCells_heap b' e us cur.toList off w q3' (by omega), by simpa [splice_len (show off + us.length ≤ cur.toList.length by omega)] using q2, q4, q5, by simp [splice_len (show off + us.length ≤ cur.toList.length by omega), q6], ?_⟩⟩
    apply List.ext_getElem?
    intro k
    rw [List.toList_toArray, List.getElem?_take, splice_get (by omega), splice_get (by omega)]
    have hcv : ∀ k, k < L * en → cur.toList[k]? = vs[k]? := fun k hk => by
      rw [← q7, List.getElem?_take, if_pos hk]
    by_cases hk : k < L * en
    · rw [if_pos hk, hcv k hk]
    · rw [if_neg hk, if_neg (by omega), if_neg (by omega), List.getElem?_eq_none (by omega)]
  · exact RepL.splice (RepL.step (G := some _) (G' := some _) hgr hm hS hM cs vs o2) (RepL.step (G := some _) (G' := some _) hgr hm hS hM ds us u2)

/-! made slices -/
theorem T.makeSl {e n bytes : Nat} {z : Value} {kl kc : IntKind} (id : Nat) (t : TypeId) (x y : Operand) (ht : P.underlying t = some (.slice e)) (hinfo : (P.info? e).map (fun i => (i.zero, i.size, i.bytes)) = some (some z, 1, bytes)) (hz1 : z.cells = #[z])
    (hb : bytes * n ≤ 281474976710656) (hn : n ≤ maxLen) (hid : newId N id = true := by first | exact rfl | decide +kernel) :
    Tri P N ⟨dst, .makeSlice t x y, ty, pos, af, gd⟩ [(x, .flat (.int kl n)), (y, .flat (.int kc n))] [(id, none)] (.own id n) [(id, some (.row e 1 n (List.replicate n (.flat z))))] :=
  Tri.make hid fun M w G ρ hv => by
    have hr := run_make_row' (P := P) t e z bytes ht hinfo hz1 kl kc n hb (by unfold maxLen at hn; omega) w
    refine ⟨_, (madeCells #[z] n).toList, e, by simp only [execOp, hv.one, hv.2.one, Sem.run_bind, hr, Result.andThen_ok, Sem.run_pure, Array.toArray_toList], .inr ⟨1, n, _, rfl, rfl, rfl, by simp [size_madeCells], hn, ?_⟩⟩
    refine RepL.of (by simp [size_madeCells]) fun i d u h1 h2 => ?_
    have hd : d = .flat z := by
      rw [List.getElem?_replicate] at h1
      split at h1
      · cases h1; rfl
      · cases h1
    have hu : u = z := by
      have hi := (List.getElem?_eq_some_iff.1 h2).1
      simp [size_madeCells] at hi
      simp [madeCells, hi, Nat.mod_one] at h2
      exact h2.symm
    subst hd; subst hu
    simp only [Rep]

/-! cut slices -/
theorem sliced_rep {M : Nat → Prop} {w : World} {G : Cx} {f : Bool} {n len lo hi : Nat} {cs : List D} {a : Option Addr} {cap : Nat} (h : Rep M w G (.sl f n len cs) (.slice a len cap)) (h1 : lo ≤ hi) (h2 : hi ≤ len) : Rep M w G (.sl false n (hi - lo) ((cs.drop (lo * n)).take ((hi - lo) * n))) (sliced a lo hi cap n) := by
  simp only [Rep] at h ⊢
  obtain ⟨a', cap', q0, q1, _, q3, q4, q5⟩ := h
  simp only [Value.slice.injEq, true_and] at q0
  obtain ⟨rfl, rfl⟩ := q0
  have hm : lo * n + (hi - lo) * n = hi * n := by rw [← Nat.add_mul]; congr 1; omega
  have hm2 : hi * n ≤ len * n := Nat.mul_le_mul_right _ h2
  refine ⟨_, _, rfl, by omega, fun e => (by cases e), by simp; omega, by omega, ?_⟩
  by_cases h0 : (hi - lo) * n = 0
  · exact .inl h0
  · rcases q5 with q5 | ⟨b, off, rfl, q6, q7⟩
    · omega
    · have hlc : ¬ cap = lo := fun e => h0 (by rw [show hi - lo = 0 by omega]; simp)
      refine .inr ⟨b, off + lo * n, by simp [hlc, add_off], q6, RepC.of fun i d hd => ?_⟩
      rw [List.getElem?_take] at hd
      split at hd
      · rw [List.getElem?_drop] at hd
        obtain ⟨u, hu, hr⟩ := q7.get _ hd
        exact ⟨u, by rw [Nat.add_assoc]; exact hu, hr⟩
      · cases hd
theorem P_elem {t e : TypeId} (ht : P.underlying t = some (.slice e)) : P.elem t = e := by simp [Program.elem, ht]
theorem run_cut {t e : TypeId} {n : Nat} {w : World} {v : Value} {lo hi : Option Value} {r : Value} (ht : P.underlying t = some (.slice e)) (h : (Instr.slice t v lo hi none).run P w = .ok r w) : (Instr.sliceAt t v lo hi none).run P w = .ok r w := by
  rw [run_sliceAt_slice (P := P) w t v lo hi none (by rw [P_elem ht]; exact ht)]; exact h
theorem T.cutH {f : Bool} {n len e h : Nat} {k : IntKind} {cs : List D} (t : TypeId) (x y : Operand) (ht : P.underlying t = some (.slice e)) (hn : sizeOfT P e = some n) (h2 : h ≤ len) :
    Tri P N ⟨dst, .slice t x none (some y) none, ty, pos, af, gd⟩ [(x, .sl f n len cs), (y, .flat (.int k h))] [] (.sl false n h (cs.take (h * n))) [] := Tri.val fun M w G ρ hv => by
  have q1 := hv.1
  have q2 := hv.2.one
  have q1' := q1
  simp only [Rep] at q1
  obtain ⟨a, cap, r1, r2, _⟩ := q1
  have hr := run_slice_h (P := P) w t a len cap (by rw [P_elem ht]; exact ht) k h (by omega) (by omega)
  rw [P_elem ht, run_sizeOf hn] at hr
  simp only [Result.andThen_ok, Int.toNat_natCast] at hr
  rw [r1] at q1'
  have hrep := sliced_rep (lo := 0) (hi := h) q1' (Nat.zero_le _) h2
  simp only [Nat.zero_mul, Nat.sub_zero, List.drop_zero] at hrep
  refine ⟨_, ?_, hrep⟩
  simp only [execOp, r1, q2, Option.map_none, Option.map_some, Sem.run_bind, run_cut (P := P) (n := n) ht hr, Result.andThen_ok, Sem.run_pure]
theorem T.cutL {f : Bool} {n len e l : Nat} {k : IntKind} {cs : List D} (t : TypeId) (x y : Operand) (ht : P.underlying t = some (.slice e)) (hn : sizeOfT P e = some n) (h2 : l ≤ len) :
    Tri P N ⟨dst, .slice t x (some y) none none, ty, pos, af, gd⟩ [(x, .sl f n len cs), (y, .flat (.int k l))] [] (.sl false n (len - l) (cs.drop (l * n))) [] := Tri.val fun M w G ρ hv => by
  have q1 := hv.1
  have q2 := hv.2.one
  have q1' := q1
  simp only [Rep] at q1
  obtain ⟨a, cap, r1, r2, _, r4, _⟩ := q1
  have hr := run_slice_l (P := P) w t a len cap (by rw [P_elem ht]; exact ht) k l (by omega) (by omega)
  rw [P_elem ht, run_sizeOf hn] at hr
  simp only [Result.andThen_ok, Int.toNat_natCast] at hr
  rw [r1] at q1'
  have hrep := sliced_rep (lo := l) (hi := len) q1' h2 (Nat.le_refl _)
  rw [List.take_of_length_le (by simp [r4, Nat.sub_mul])] at hrep
  refine ⟨_, ?_, hrep⟩
  simp only [execOp, r1, q2, Option.map_none, Option.map_some, Sem.run_bind, run_cut (P := P) (n := n) ht hr, Result.andThen_ok, Sem.run_pure]

/-! calls -/
def Enters (P : Program) (k : FuncId) : Prop := ∀ (args : Array Value) (w : World), (callFunc k args).run P w = .ok (.enter k args) w
theorem vals_repL {M : Nat → Prop} {w : World} {G : Cx} {ρ : Operand → Value} : ∀ {pf : List (Operand × D)}, Vals M w G ρ pf → RepL M w G (pf.map (·.2)) (pf.map fun p => ρ p.1)
  | [], _ => by simp [RepL]
  | p :: r, h => by simp only [List.map_cons, RepL]; exact ⟨_, _, rfl, h.1, vals_repL h.2⟩
theorem Tri.calls {o : Oper} {k : FuncId} {pf : List (Operand × D)} {pe : Sg} {d : D} (hex : ∀ (w0 : World) (M0 : Nat → Prop) (B0 : Bd) (g : Gh) (s : DS) (a : Act) (w : World), StG w0 M0 B0 N g s a w → Ens s.σ pe → Vals (Mx M0 g s.σ) w (some (g, s.σ)) a.eval pf →
    ∃ args : Array Value, (execOp a.eval o).run P w = .ok (.enter k args) w ∧ Calls P k args w (fun e w' => ∃ v, e = .returned v ∧ Rep (Mx M0 g s.σ) w' (some (g, s.σ)) d v ∧ Fix w w')) : Tri P N o pf pe d [] := by
  refine ⟨?_⟩
  intro w0 M0 B0 s a w next Q h1 h2 hd ⟨g, hs⟩ hk
  obtain ⟨args, hr, hc⟩ := hex w0 M0 B0 g s a w hs h2 (hs.vals h1)
  refine opIn_enter hr ?_
  exact hc.mono fun e w' ⟨v, q1, q2, q3⟩ => by subst q1; exact hk _ _ ⟨g, hs.pure q3 hd q2⟩
theorem run_callS {k : FuncId} {ar : List Operand} {ts : Array TypeId} (he : Enters P k) (ρ : Operand → Value) (hρ : ρ (.func k) = .func (.func k) #[] #[]) (w : World) :
    (execOp ρ ⟨dst, .call { callee := .value (.func k), args := ar.toArray, argTypes := ts }, ty, pos, af, gd⟩).run P w = .ok (.enter k (ar.map ρ).toArray) w := by
  simp only [execOp, resolve, hρ, Deferred.ofValue, Sem.run_bind, Sem.run_pure, Result.andThen_ok, invoke, List.map_toArray]
  have := he ((ar.map ρ).toArray) w
  simpa using this
/-- A call of a known function with data that do without the call's own boxes and rows. -/
theorem T.call {k : FuncId} {ar : List Operand} {ts : Array TypeId} {ds ds' : List D} {d : D} (he : Enters P k) (hf : DFun P k ds d) (hl : ar.length = ds'.length) (hp : persL ds' = true) (hle : LeL ds' ds) :
    Tri P N ⟨dst, .call { callee := .value (.func k), args := ar.toArray, argTypes := ts }, ty, pos, af, gd⟩ (ar.zip ds') [] d [] := Tri.calls (k := k) fun w0 M0 B0 g s a w hs _ hv => by
  refine ⟨_, run_callS he a.eval rfl w, ?_⟩
  have h1 := vals_repL hv
  rw [show (ar.zip ds').map (·.2) = ds' from by rw [List.map_snd_zip (by omega)], show ((ar.zip ds').map fun p => a.eval p.1) = ar.map a.eval from by rw [show (fun p : Operand × D => a.eval p.1) = a.eval ∘ Prod.fst from rfl, ← List.map_map, List.map_fst_zip (by omega)]] at h1
  exact (hf.go _ w _ hs.mlt (LeL.rep hs.mlt hle (RepL.down ds' _ hp h1)) hs.glw).mono fun e w' ⟨v, q1, q2, q3⟩ => ⟨v, q1, q2.up, q3⟩
/-- The same with a look into the call's own boxes and rows; what comes back does without memory. -/
theorem T.callV {k : FuncId} {ar : List Operand} {ts : Array TypeId} {ds ds' : List D} {d : D} (pe : Sg) (he : Enters P k) (hf : DFun P k ds d) (hl : ar.length = ds'.length) (hp : VwL pe ds' ds) (hd : noMem d = true) :
    Tri P N ⟨dst, .call { callee := .value (.func k), args := ar.toArray, argTypes := ts }, ty, pos, af, gd⟩ (ar.zip ds') pe d [] := Tri.calls (k := k) fun w0 M0 B0 g s a w hs hpe hv => by
  refine ⟨_, run_callS he a.eval rfl w, ?_⟩
  have h1 := vals_repL hv
  rw [show (ar.zip ds').map (·.2) = ds' from by rw [List.map_snd_zip (by omega)], show ((ar.zip ds').map fun p => a.eval p.1) = ar.map a.eval from by rw [show (fun p : Operand × D => a.eval p.1) = a.eval ∘ Prod.fst from rfl, ← List.map_map, List.map_fst_zip (by omega)]] at h1
  exact (hf.go _ w _ (fun b hb => hs.mlt b hb.sub) (VwL.rep hs hpe hp h1) hs.glw).mono fun e w' ⟨v, q1, q2, q3⟩ => ⟨v, q1, q2.noMem _ _ hd, q3⟩
/-- A call of a function value. -/
theorem T.callC {k : FuncId} {x : Operand} {ar : List Operand} {ts : Array TypeId} {first cap ds ds' : List D} {d : D} (pe : Sg) (he : Enters P k) (hf : DFun P k ds d) (hl : ar.length = ds'.length) (hp : VwL pe (first ++ ds' ++ cap) ds) (hd : noMem d = true) :
    Tri P N ⟨dst, .call { callee := .value x, args := ar.toArray, argTypes := ts }, ty, pos, af, gd⟩ ((x, .clo (.func k) first cap) :: ar.zip ds') pe d [] := Tri.calls (k := k) fun w0 M0 B0 g s a w hs hpe hv => by
  have h0 := hv.1
  simp only [Rep] at h0
  obtain ⟨fs, us, hx, hf1, hc1⟩ := h0
  have hrun : (execOp a.eval ⟨dst, .call { callee := .value x, args := ar.toArray, argTypes := ts }, ty, pos, af, gd⟩).run P w = .ok (.enter k (fs ++ ar.map a.eval ++ us).toArray) w := by
    simp only [execOp, resolve, hx, Deferred.ofValue, Sem.run_bind, Sem.run_pure, Result.andThen_ok, invoke, List.map_toArray]
    have := he ((fs ++ ar.map a.eval ++ us).toArray) w
    simpa using this
  refine ⟨_, hrun, ?_⟩
  have h1 := vals_repL hv.2
  rw [show (ar.zip ds').map (·.2) = ds' from by rw [List.map_snd_zip (by omega)], show ((ar.zip ds').map fun p => a.eval p.1) = ar.map a.eval from by rw [show (fun p : Operand × D => a.eval p.1) = a.eval ∘ Prod.fst from rfl, ← List.map_map, List.map_fst_zip (by omega)]] at h1
  exact (hf.go _ w _ (fun b hb => hs.mlt b hb.sub) (VwL.rep hs hpe hp (RepL.append (RepL.append hf1 h1) hc1)) hs.glw).mono fun e w' ⟨v, q1, q2, q3⟩ => ⟨v, q1, q2.noMem _ _ hd, q3⟩
theorem T.makeFunc {k : Fn} {fs cs : List Operand} {fd cd : List D} (hl : fs.length = fd.length) (hl2 : cs.length = cd.length) :
    Tri P N ⟨dst, .makeFunc k fs.toArray cs.toArray, ty, pos, af, gd⟩ (fs.zip fd ++ cs.zip cd) [] (.clo k fd cd) [] := Tri.val fun M w G ρ hv => by
  have h1 := vals_repL hv
  have hz : ∀ {ar : List Operand} {ds : List D}, ar.length = ds.length → (ar.zip ds).map (·.2) = ds ∧ ((ar.zip ds).map fun p => ρ p.1) = ar.map ρ := fun {ar ds} h => ⟨by rw [List.map_snd_zip (by omega)], by rw [show (fun p : Operand × D => ρ p.1) = ρ ∘ Prod.fst from rfl, ← List.map_map, List.map_fst_zip (by omega)]⟩
  have split : ∀ {pf qf : List (Operand × D)}, Vals M w G ρ (pf ++ qf) → Vals M w G ρ pf ∧ Vals M w G ρ qf := fun {pf qf} h => by
    induction pf with
    | nil => exact ⟨trivial, h⟩
    | cons p r ih => obtain ⟨q1, q2⟩ := ih h.2; exact ⟨⟨h.1, q1⟩, q2⟩
  obtain ⟨s1, s2⟩ := split hv
  have v1 := vals_repL s1
  have v2 := vals_repL s2
  rw [(hz hl).1, (hz hl).2] at v1
  rw [(hz hl2).1, (hz hl2).2] at v2
  exact ⟨.func k (fs.map ρ).toArray (cs.map ρ).toArray, by simp [execOp, Instr.makeFunc], by simp only [Rep]; exact ⟨_, _, rfl, v1, v2⟩⟩

/-! results -/
theorem Vw.out {pe : Sg} {d d' : D} {w0 : World} {M0 : Nat → Prop} {B0 : Bd} {g : Gh} {s : DS} {a : Act} {w : World} (hs : StG w0 M0 B0 N g s a w) (he : Ens s.σ pe) (h : Vw pe d d') {v : Value} (hv : Rep (Mx M0 g s.σ) w (some (g, s.σ)) d v) : Rep M0 w none d' v :=
  (h w0 M0 B0 N g s a w hs he v hv).mono fun b _ hb => .inl hb
theorem ResOk.one {fn : Func} {s : DS} {t : Tmp} {d d' : D} (pe : Sg) (hr : fn.results = #[.tmp t]) (hd : lkF s.f t = d) (he : Ens s.σ pe) (h : Vw pe d d') : ResOk P fn s d' := fun w0 M0 B0 N g a w hs =>
  ⟨a.tmps.getD t undef, by simp [results, hr], h.out hs he (by rw [← hd]; exact hs.tm t)⟩
theorem ResOk.two {fn : Func} {s : DS} {t u : Tmp} {d d' e e' : D} (pe : Sg) (hr : fn.results = #[.tmp t, .tmp u]) (hd : lkF s.f t = d) (hd2 : lkF s.f u = e) (he : Ens s.σ pe) (h : Vw pe d d') (h2 : Vw pe e e') : ResOk P fn s (.tup [d', e']) := fun w0 M0 B0 N g a w hs =>
  ⟨.tuple #[a.tmps.getD t undef, a.tmps.getD u undef], by simp [results, hr], by
    simp only [Rep]
    refine ⟨[_, _], rfl, ?_⟩
    simp only [RepL]
    exact ⟨_, _, rfl, h.out hs he (by rw [← hd]; exact hs.tm t), _, _, rfl, h2.out hs he (by rw [← hd2]; exact hs.tm u), rfl⟩⟩
theorem run_loadBox {w0 : World} {M0 : Nat → Prop} {B0 : Bd} {g : Gh} {s : DS} {a : Act} {w : World} (hs : StG w0 M0 B0 N g s a w) {id t : Nat} {bb : Bool} {n : Nat} {cs : List D} {d : D} (he : lkE s.σ id = some (.box cs)) (hb : aggOf P t = some bb) (hn : sizeOfT P t = some n) (h : partD bb n 0 cs = some d) (hk : keysOf cs = none) {v : Value} (hv : Rep (Mx M0 g s.σ) w (some (g, s.σ)) (.ref id 0) v) :
    ∃ x u, (asAddr v).run P w = .ok x w ∧ (loadVar t x).run P w = .ok u w ∧ Rep (Mx M0 g s.σ) w (some (g, s.σ)) d u := by
  simp only [Rep] at hv
  obtain ⟨g', σ', cs0, hG, h2, h3⟩ := hv
  cases hG
  obtain ⟨vs, T, o1, o2, o4⟩ := hs.ent id _ he
  obtain ⟨T, rfl⟩ := o4.cells hk
  obtain ⟨v, r1, r2⟩ := run_loadAt_rep (P := P) (b := g.blk id) (o := 0) hb hn h (fun i u hu => by simp only [World.cell?, o1, Nat.zero_add]; simpa using hu) o2
  simp only [Instr.loadAt, Instr.sureAddr, Nat.add_zero, Sem.run_bind, Sem.run_pure, Result.andThen_ok] at r1
  exact ⟨_, v, by rw [h3]; simp [asAddr], r1, r2⟩
theorem ResOk.cell {fn : Func} {s : DS} {x : Tmp} {t id n : Nat} {bb : Bool} {cs : List D} {d d' : D} (pe : Sg) (hr : fn.results = #[.cell x t]) (hx : lkF s.f x = .ref id 0) (hi : lkE s.σ id = some (.box cs)) (hb : aggOf P t = some bb) (hn : sizeOfT P t = some n) (hd : partD bb n 0 cs = some d) (he : Ens s.σ pe) (h : Vw pe d d') (hk : keysOf cs = none := by first | rfl | assumption) : ResOk P fn s d' := fun w0 M0 B0 N g a w hs => by
  have h0 := hs.tm x
  rw [hx] at h0
  obtain ⟨ad, u, h1, h2, h3⟩ := run_loadBox (P := P) hs hi hb hn hd hk h0
  rw [Array.getD_eq_getD_getElem?] at h1
  exact ⟨u, by simp [results, hr, h1, h2], h.out hs he h3⟩
theorem ResOk.cellTmp {fn : Func} {s : DS} {x u : Tmp} {t id n : Nat} {bb : Bool} {cs : List D} {d d' e e' : D} (pe : Sg) (hr : fn.results = #[.cell x t, .tmp u]) (hx : lkF s.f x = .ref id 0) (hi : lkE s.σ id = some (.box cs)) (hb : aggOf P t = some bb) (hn : sizeOfT P t = some n) (hd : partD bb n 0 cs = some d) (hu : lkF s.f u = e) (he : Ens s.σ pe) (h : Vw pe d d') (h2 : Vw pe e e') (hk : keysOf cs = none := by first | rfl | assumption) : ResOk P fn s (.tup [d', e']) := fun w0 M0 B0 N g a w hs => by
  have h0 := hs.tm x
  rw [hx] at h0
  obtain ⟨ad, v, h1, h4, h3⟩ := run_loadBox (P := P) hs hi hb hn hd hk h0
  rw [Array.getD_eq_getD_getElem?] at h1
  refine ⟨.tuple #[v, a.tmps.getD u undef], by simp [results, hr, h1, h4], ?_⟩
  simp only [Rep]
  refine ⟨[_, _], rfl, ?_⟩
  simp only [RepL]
  exact ⟨_, _, rfl, h.out hs he h3, _, _, rfl, h2.out hs he (by rw [← hu]; exact hs.tm u), rfl⟩
end
end Go.Dm
