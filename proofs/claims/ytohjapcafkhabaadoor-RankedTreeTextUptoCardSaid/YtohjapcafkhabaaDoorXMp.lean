/- A machine over data: append to a slice that is full gives a new one. No condition. -/
import Derived.Test.YtohjapcafkhabaaDoorXMs
import Derived.Lib.UnsafeStr

set_option linter.unusedSimpArgs false
set_option linter.unusedVariables false
set_option linter.unusedSectionVars false
set_option maxHeartbeats 400000
namespace Go.Dm
open Go Go.RowKit Go.PP
variable [GlobW] [Rnd]
section
variable {P : Program} {N : Nat} {dst : Option Tmp} {ty : TypeId} {pos : String} {af : Array Edge} {gd : Option (Nat × Bool)}
theorem run_appendF {w : World} (t xt ty e : TypeId) {z : Value} {size bytes : Nat} (ht : P.underlying t = some (.slice e)) (hinfo : (P.info? e).map (fun i => (i.zero, i.size, i.bytes)) = some (some z, size, bytes)) (hzs : z.cells.size = size) (hsz : 0 < size)
    (ad : Option Addr) (n : Nat) (cs : List Value) (hcs : cs.length = n * size) (hnil : ad = none → n = 0) (hc : ∀ a, ad = some a → ∀ j u, cs[j]? = some u → w.cell? (a.add j) = some u) (x : Value) (m : Nat) (news : List Value) (hs : Src P w xt size m x news) (hl : news.length = m * size)
    (hm : 0 < m) (hby : (n + m) * bytes ≤ 140737488355328) (hbp : 0 < bytes) :
    ∃ cap, n + m ≤ cap ∧ cap ≤ maxLen ∧ (Builtin.append_ #[t, xt] ty #[.slice ad n n, x]).run P w = .ok (.slice (some ⟨w.heap.size, 0, none⟩) (n + m) cap) (w.drew.alloc (.cells (cs.toArray ++ news.toArray ++ Builtin.zeroCells z.cells (cap - (n + m))) e)) := by
  obtain ⟨i, hi, hz, hsize, hbytes⟩ := info_parts hinfo
  have hn : n + m ≤ 140737488355328 := Nat.le_trans (Nat.le_mul_of_pos_right _ hbp) hby
  subst hsize; subst hbytes
  have hf1 := hs.fst w.drew rfl
  have hl0 := hs.len w
  have hfo : (Builtin.firstCells i.size n (.slice ad n n)).run P w.drew = .ok cs.toArray w.drew := by
    cases ad with
    | none =>
      have h0 := hnil rfl
      subst h0
      have : cs = [] := List.eq_nil_of_length_eq_zero (by simpa using hcs)
      subst this
      simp [Builtin.firstCells]
    | some a => exact run_firstCells_some (P := P) w.drew i.size n a n n cs hcs (fun j u hu => by rw [World.cell?_of_block (w := w) (by rfl)]; exact hc a rfl j u hu)
  have hn' : ¬ (n + m ≤ n) := by omega
  have h63' : ¬ (9223372036854775807 < ((n : Int) + (m : Int))) := by omega
  have h48' : ¬ (281474976710656 < Builtin.nextslicecap (n + m) n * i.bytes) := by have := growslice_fits (old := n) (need := n + m) (by omega) hby; omega
  refine ⟨grownCap w (n + m) n e, grownCap_ge w (n + m) n e, grownCap_le_maxLen w (n + m) n e (by unfold maxLen; omega), ?_⟩
  rcases hs.ty with ⟨e2, hty⟩ | hty
  all_goals
    simp [Builtin.append_, run_underlying ht, run_underlying hty, sizeOf, typeInfo, zeroValue, hi, hz, hl0, hm, show ¬ m = 0 by omega, h63', h48', Question.forced, hf1, hfo, newRow, grownCap]
    rw [if_neg hn']
    congr 3
    apply Array.ext'
    simp [List.append_assoc]
theorem T.appendSl {e n L m bytes : Nat} {z : Value} {f : Bool} {cs ds : List D} {dy : D} (t x y) (ht : P.underlying t = some (.slice e)) (hinfo : (P.info? e).map (fun i => (i.zero, i.size, i.bytes)) = some (some z, n, bytes)) (hzs : z.cells.size = n) (hsz : 0 < n) (hbp : 0 < bytes)
    (hle : Le dy (.sl f n m ds)) (hby : (L + m) * bytes ≤ 140737488355328) :
    Tri P N ⟨dst, .call { callee := .builtin .append, args := #[x, y], argTypes := #[t, t] }, ty, pos, af, gd⟩ [(x, .sl true n L cs), (y, dy)] [] (.sl false n (L + m) (cs ++ ds)) [] := Tri.run fun M w G ρ hM hv => by
  have hvx := hv.1
  have hvy := hle _ _ _ _ hM hv.2.1
  simp only [Rep] at hvx hvy
  obtain ⟨ax, cx, x1, x2, x3, x4, x5, x6⟩ := hvx
  obtain ⟨ay, cy, y1, y2, y3, y4, y5, y6⟩ := hvy
  have hcx := x3 trivial
  subst hcx
  obtain ⟨us, u1, u2, u3⟩ : ∃ us : List Value, RepL M w none cs us ∧ (ax = none → cx = 0) ∧ ∀ a, ax = some a → ∀ j u, us[j]? = some u → w.cell? (a.add j) = some u := by
    rcases x6 with x6 | ⟨b, off, rfl, x7, x8⟩
    · have h0 : cs = [] := List.eq_nil_of_length_eq_zero (by rw [x4]; exact x6)
      subst h0
      refine ⟨[], by simp only [RepL], fun _ => ?_, fun a _ j u h => by simp at h⟩
      rcases Nat.mul_eq_zero.1 x6 with h | h
      · exact h
      · omega
    · obtain ⟨us, q1, q2⟩ := RepC.vals x8
      exact ⟨us, q1, (fun h => by cases h), fun a ha j u hj => by cases ha; rw [add_off]; exact q2 j u hj⟩
  obtain ⟨news, n1, n2, n3⟩ : ∃ news : List Value, RepL M w none ds news ∧ (ay = none → news = []) ∧ ∀ a, ay = some a → ∀ j u, news[j]? = some u → w.cell? (a.add j) = some u := by
    rcases y6 with r6 | ⟨b, off, rfl, r7, r8⟩
    · have hds : ds = [] := List.eq_nil_of_length_eq_zero (by rw [y4]; exact r6)
      subst hds
      exact ⟨[], by simp only [RepL], fun _ => rfl, fun a _ j u h => by simp at h⟩
    · obtain ⟨news, q1, q2⟩ := RepC.vals r8
      exact ⟨news, q1, (fun h => by cases h), fun a ha j u hj => by cases ha; rw [add_off]; exact q2 j u hj⟩
  have hln : news.length = m * n := by rw [← n1.length]; exact y4
  have hlu : us.length = cx * n := by rw [← u1.length]; exact x4
  have hsrc : Src P w t n m (.slice ay m cy) news := Src.sl (c := cy) ht hln n2 n3
  by_cases hm : m = 0
  · subst hm
    have hnn : news = [] := List.eq_nil_of_length_eq_zero (by simpa using hln)
    have hdd : ds = [] := List.eq_nil_of_length_eq_zero (by simpa using y4)
    subst hnn; subst hdd
    have hl0 := hsrc.len w
    have hf0 := hsrc.fst w rfl
    obtain ⟨i, hi, hz, hsize, hbytes⟩ := info_parts hinfo
    subst hsize
    refine ⟨.slice ax cx cx, w, run_app x1 y1 ?_, Mut.refl _ w, ?_⟩
    · cases ax with
      | none => simp [Builtin.append_, run_underlying ht, sizeOf, typeInfo, hi, hl0, hf0]
      | some a => simp [Builtin.append_, run_underlying ht, sizeOf, typeInfo, hi, hl0, hf0, storeCells]
    · simp only [Rep, List.append_nil, Nat.add_zero]
      exact ⟨ax, cx, rfl, Nat.le_refl _, fun e => (by cases e), x4, x5, x6⟩
  · obtain ⟨cap, hcap, -, hr⟩ := run_appendF (P := P) t t ty e ht hinfo hzs hsz ax cx us hlu u2 u3 _ m news hsrc hln (by omega) hby hbp
    have hn : cx + m ≤ 140737488355328 := Nat.le_trans (Nat.le_mul_of_pos_right _ hbp) hby
    have hfx : Fix w (w.drew.alloc (.cells (us.toArray ++ news.toArray ++ Builtin.zeroCells z.cells (cap - (cx + m))) e)) := (Mut.refl _ w).drew.alloc _
    refine ⟨_, _, run_app x1 y1 hr, hfx, ?_⟩
    simp only [Rep]
    refine ⟨_, cap, rfl, hcap, fun e => (by cases e), by rw [List.length_append, x4, y4, Nat.add_mul], by omega, .inr ⟨w.heap.size, 0, rfl, fun h => by have := hM _ h; omega, RepC.of fun i d hd => ?_⟩⟩
    obtain ⟨u, hu, hr'⟩ := ((RepL.append u1 n1).fix hfx).get i hd
    refine ⟨u, ?_, hr'⟩
    have hi := (List.getElem?_eq_some_iff.1 hu).1
    rw [Nat.zero_add]
    have hb : (w.drew.alloc (.cells (us.toArray ++ news.toArray ++ Builtin.zeroCells z.cells (cap - (cx + m))) e)).heap[w.heap.size]? = some (.cells (us.toArray ++ news.toArray ++ Builtin.zeroCells z.cells (cap - (cx + m))) e) := heap_alloc_new w.drew _
    simp only [World.cell?, hb]
    have hi2 : i < (us.toArray ++ news.toArray).size := by simpa using hi
    simp only [Option.isSome_none, Bool.false_eq_true, if_false]
    rw [Array.getElem?_append_left hi2]
    simpa using hu
end
end Go.Dm

set_option linter.unusedSimpArgs false
set_option linter.unusedVariables false
set_option linter.unusedSectionVars false
set_option maxHeartbeats 400000
namespace Go.Dm
open Go Go.RowKit Go.PP
variable [GlobW] [Rnd]
section
variable {P : Program} {N : Nat} {dst : Option Tmp} {ty : TypeId} {pos : String} {af : Array Edge} {gd : Option (Nat × Bool)}
theorem Tri.makeRd {o : Oper} {pf : List (Operand × D)} {id : Nat} {T n len : Nat} {cs : List D} (hid : newId N id = true)
    (hrun : ∀ (M : Nat → Prop) (w : World) (G : Cx) (ρ : Operand → Value), Vals M w G ρ pf → ∃ (vs : List Value) (cap : Nat), len ≤ cap ∧ cap ≤ maxLen ∧ (execOp ρ o).run P w = .ok (.value (.slice (some ⟨w.heap.size, 0, none⟩) len cap)) (w.drew.alloc (.cells vs.toArray T)) ∧
      vs.length = cap * n ∧ RepL M w G cs (vs.take (len * n))) : Tri P N o pf [(id, none)] (.own id len) [(id, some (.row T n len cs))] := by
  refine ⟨?_⟩
  intro w0 M0 B0 s a w next Q h1 h2 hd ⟨g, hs⟩ hk
  obtain ⟨vs, cap, hl1, hl2, hr, hlen, hrep⟩ := hrun _ w (some (g, s.σ)) a.eval (hs.vals h1)
  refine opIn_val hr ?_
  have hno : lkE s.σ id = none := h2.1
  have hbn : blkOf g s.σ id = none := by unfold blkOf; rw [hno]
  have hm : Fix w (w.drew.alloc (.cells vs.toArray T)) := (Mut.refl _ w).drew.alloc _
  have hm' : Mut (fun b => blkOf g s.σ id = some b) w (w.drew.alloc (.cells vs.toArray T)) := hm.mono (fun _ _ e => e.elim)
  have hgrow : ∀ g' : Gh, (∀ k, k ≠ id → g'.blk k = g.blk k) → (∀ k, k ≠ id → g'.row k = g.row k) → Grow (g, s.σ) (g', (id, some (Ent.row T n len cs)) :: s.σ) := fun g' q1 q2 =>
    ⟨fun k cs hc => by
      have hne : k ≠ id := fun e => by subst e; simp only at hc; rw [hno] at hc; cases hc
      exact ⟨⟨cs, by rw [lkE_cons, if_neg (fun e => hne e.symm)]; exact hc⟩, q1 k hne⟩,
     fun k e n len cs hc => by
      have hne : k ≠ id := fun e => by subst e; simp only at hc; rw [hno] at hc; cases hc
      exact .inr ⟨e, n, len, cs, by rw [lkE_cons, if_neg (fun e => hne e.symm)]; exact hc, Nat.le_refl _, fun _ => q2 k hne⟩,
     fun k hc => by
      have hne : k ≠ id := fun e => by subst e; simp only at hc; rw [hno] at hc; cases hc
      simp only at hc ⊢
      rw [lkE_cons, if_neg (fun e => hne e.symm)]; exact hc⟩
  have hcap : len * n ≤ cap * n := Nat.mul_le_mul_right _ hl1
  refine hk _ _ ⟨⟨g.blk, fun k => if k = id then .slice (some ⟨w.heap.size, 0, none⟩) len cap else g.row k⟩, hs.set1 (g' := ⟨g.blk, fun k => if k = id then .slice (some ⟨w.heap.size, 0, none⟩) len cap else g.row k⟩) id (.row T n len cs) (fun _ => hid) hm' (fun k hk => rfl) (fun k hk => by simp [hk]) (hgrow _ (fun k hk => rfl) (fun k hk => by simp [hk])) ?_ ?_ hd ?_⟩
  · intro b hb
    simp only [blkOf, lkE_cons, if_pos, Value.ownBlock, Option.some.injEq] at hb
    subst hb
    exact ⟨by simp, fun h => by omega⟩
  · intro M hM
    refine ⟨vs.take (len * n), ?_, RepL.step (G := some _) (G' := some _) (hgrow ⟨g.blk, fun k => if k = id then .slice (some ⟨w.heap.size, 0, none⟩) len cap else g.row k⟩ (fun k hk => rfl) (fun k hk => by simp [hk])) hm (fun _ _ e => e.elim) hM cs _ hrep⟩
    simp only [if_pos]
    exact ⟨by rw [List.length_take]; omega, .inr ⟨w.heap.size, cap, vs.toArray, (0, 0), rfl, heap_alloc_new w.drew _, .inl rfl, hl1, hl2, by simpa using hlen, by simp⟩⟩
  · intro M hM
    simp only [Rep]
    exact ⟨_, _, rfl, .inr ⟨T, n, len, cs, by rw [lkE_cons, if_pos rfl], Nat.le_refl _, fun _ => by simp⟩, _, _, rfl⟩
theorem T.appendNil {id e n m bytes : Nat} {z : Value} {f : Bool} {ds : List D} (t x y) (ht : P.underlying t = some (.slice e)) (hinfo : (P.info? e).map (fun i => (i.zero, i.size, i.bytes)) = some (some z, n, bytes)) (hzs : z.cells.size = n) (hsz : 0 < n) (hbp : 0 < bytes)
    (hm : 0 < m) (hby : m * bytes ≤ 140737488355328) (hid : newId N id = true) :
    Tri P N ⟨dst, .call { callee := .builtin .append, args := #[x, y], argTypes := #[t, t] }, ty, pos, af, gd⟩ [(x, .flat (.slice none 0 0)), (y, .sl f n m ds)] [(id, none)] (.own id m) [(id, some (.row e n m ds))] := by
  refine Tri.makeRd hid fun M w G ρ hv => ?_
  have hvx := hv.1
  have hvy := hv.2.1
  simp only [Rep] at hvx hvy
  obtain ⟨ay, cy, y1, y2, y3, y4, y5, y6⟩ := hvy
  obtain ⟨news, n1, n2, n3⟩ : ∃ news : List Value, RepL M w none ds news ∧ (ay = none → news = []) ∧ ∀ a, ay = some a → ∀ j u, news[j]? = some u → w.cell? (a.add j) = some u := by
    rcases y6 with r6 | ⟨b, off, rfl, r7, r8⟩
    · have hds : ds = [] := List.eq_nil_of_length_eq_zero (by rw [y4]; exact r6)
      subst hds
      exact ⟨[], by simp only [RepL], fun _ => rfl, fun a _ j u h => by simp at h⟩
    · obtain ⟨news, q1, q2⟩ := RepC.vals r8
      exact ⟨news, q1, (fun h => by cases h), fun a ha j u hj => by cases ha; rw [add_off]; exact q2 j u hj⟩
  have hln : news.length = m * n := by rw [← n1.length]; exact y4
  have hsrc : Src P w t n m (.slice ay m cy) news := Src.sl (c := cy) ht hln n2 n3
  obtain ⟨cap, hcap, hmx, hr⟩ := run_appendF (P := P) t t ty e ht hinfo hzs hsz none 0 [] (by simp) (fun _ => rfl) (fun a h => by cases h) _ m news hsrc hln hm (by simpa using hby) hbp
  simp only [Nat.zero_add] at hcap hr
  refine ⟨news ++ (Builtin.zeroCells z.cells (cap - m)).toList, cap, hcap, hmx, ?_, ?_, ?_⟩
  · rw [run_app hvx y1 hr]
    congr 2
    simp
  · simp only [List.length_append, Array.length_toList, size_zeroCells, hzs, hln, ← Nat.add_mul]
    congr 1; omega
  · rw [← hln, List.take_left']
    · exact n1.up
    · rfl
/-- A slot's slice made by append is the call's own, under this number. -/
structure AppAt (k id : Nat) : Prop where
theorem T.appendNilA {k id e n m bytes : Nat} {z : Value} {f : Bool} {ds : List D} (ha : AppAt k id) (t x y) (ht : P.underlying t = some (.slice e)) (hinfo : (P.info? e).map (fun i => (i.zero, i.size, i.bytes)) = some (some z, n, bytes)) (hzs : z.cells.size = n) (hsz : 0 < n) (hbp : 0 < bytes)
    (hm : 0 < m) (hby : m * bytes ≤ 140737488355328) (hid : newId N id = true := by first | exact rfl | decide +kernel) :
    Tri P N ⟨some k, .call { callee := .builtin .append, args := #[x, y], argTypes := #[t, t] }, ty, pos, af, gd⟩ [(x, .flat (.slice none 0 0)), (y, .sl f n m ds)] [(id, none)] (.own id m) [(id, some (.row e n m ds))] := T.appendNil t x y ht hinfo hzs hsz hbp hm hby hid
end
end Go.Dm

set_option linter.unusedSimpArgs false
set_option linter.unusedVariables false
set_option linter.unusedSectionVars false
set_option maxHeartbeats 400000
namespace Go.Dm
open Go Go.RowKit Go.PP
variable [GlobW] [Rnd]
section
variable {P : Program} {N : Nat} {dst : Option Tmp} {ty : TypeId} {pos : String} {af : Array Edge} {gd : Option (Nat × Bool)}
theorem T.allocT {z : Value} (id : Nat) (t : TypeId) (hz : zeroT P t = some z) (hid : newId N id = true) : Tri P N ⟨dst, .alloc t, ty, pos, af, gd⟩ [] [(id, none)] (.ref id 0) [(id, some (.box (.typ t :: flats z.cells)))] := by
  refine ⟨?_⟩
  intro w0 M0 B0 s a w next Q h1 h2 hd ⟨g, hs⟩ hk
  have hr : (execOp a.eval ⟨dst, .alloc t, ty, pos, af, gd⟩).run P w = .ok (.value (.pointer (some ⟨w.heap.size, 0, none⟩))) (w.alloc (.cells z.cells.toList.toArray t)) := by
    simp only [execOp, Instr.alloc, Sem.run_bind, run_zeroT hz, Result.andThen_ok, newVar, newRow, run_newObj, Sem.run_pure, Array.toArray_toList]
  refine opIn_val hr ?_
  generalize hvs : z.cells.toList = vs
  have hno : lkE s.σ id = none := h2.1
  have hbn : blkOf g s.σ id = none := by unfold blkOf; rw [hno]
  have hm : Fix w (w.alloc (.cells vs.toArray t)) := (Mut.refl _ w).alloc _
  have hm' : Mut (fun b => blkOf g s.σ id = some b) w (w.alloc (.cells vs.toArray t)) := hm.mono (fun _ _ e => e.elim)
  have hgrow : ∀ g' : Gh, (∀ k, k ≠ id → g'.blk k = g.blk k) → (∀ k, k ≠ id → g'.row k = g.row k) → Grow (g, s.σ) (g', (id, some (.box (.typ t :: flats z.cells))) :: s.σ) := fun g' q1 q2 =>
    ⟨fun k cs hc => by
      have hne : k ≠ id := fun e => by subst e; simp only at hc; rw [hno] at hc; cases hc
      exact ⟨⟨cs, by rw [lkE_cons, if_neg (fun e => hne e.symm)]; exact hc⟩, q1 k hne⟩,
     fun k e n len cs hc => by
      have hne : k ≠ id := fun e => by subst e; simp only at hc; rw [hno] at hc; cases hc
      exact .inr ⟨e, n, len, cs, by rw [lkE_cons, if_neg (fun e => hne e.symm)]; exact hc, Nat.le_refl _, fun _ => q2 k hne⟩,
     fun k hc => by
      have hne : k ≠ id := fun e => by subst e; simp only at hc; rw [hno] at hc; cases hc
      simp only at hc ⊢
      rw [lkE_cons, if_neg (fun e => hne e.symm)]; exact hc⟩
  refine hk _ _ ⟨⟨fun k => if k = id then w.heap.size else g.blk k, g.row⟩, hs.set1 (g' := ⟨fun k => if k = id then w.heap.size else g.blk k, g.row⟩) id (.box (.typ t :: flats z.cells)) (fun _ => hid) hm' (fun k hk => by simp [hk]) (fun k hk => rfl) (hgrow _ (fun k hk => by simp [hk]) (fun k hk => rfl)) ?_ ?_ hd ?_⟩
  · intro b hb
    simp only [blkOf, lkE_cons, if_pos, Option.some.injEq] at hb
    subst hb
    exact ⟨by simp, fun h => by omega⟩
  · intro M hM
    refine ⟨undef :: vs, _, by simp only [if_pos]; exact newBlock, ?_, ?_⟩
    · simp only [RepL]
      refine ⟨undef, vs, rfl, by simp only [Rep], ?_⟩
      rw [← hvs]
      exact flats_rep _
    · unfold ObjIs keysOf
      rfl
  · intro M hM
    simp only [Rep]
    exact ⟨_, _, _, rfl, by rw [lkE_cons, if_pos rfl], by simp⟩
/-- The slot's variable lies in a box that bears its type, under this number. -/
structure TypAt (k id : Nat) : Prop where
theorem T.allocTA {k id : Nat} {z : Value} {t : TypeId} (hm : TypAt k id) (hz : zeroT P t = some z) (hid : newId N id = true := by first | exact rfl | decide +kernel) : Tri P N ⟨some k, .alloc t, ty, pos, af, gd⟩ [] [(id, none)] (.ref id 0) [(id, some (.box (.typ t :: flats z.cells)))] := T.allocT id t hz hid
theorem T.sliceData {id L e n : Nat} {cs : List D} {ts : Array TypeId} (x : Operand) (hL : 0 < L) :
    Tri P N ⟨dst, .call { callee := .builtin .unsafeSliceData, args := #[x], argTypes := ts }, ty, pos, af, gd⟩ [(x, .own id L)] [(id, some (.row e n L cs))] (.elp id L 0) [] := Tri.read fun w0 M0 B0 g s a w hs he hv => by
  obtain ⟨q3, vs, o1, o2⟩ := own_row hs he.1 hv.1
  rcases own_cells o1 with ⟨r1, r2⟩ | ⟨b, cap, r1, r2, r3, r4⟩
  · omega
  · refine ⟨.pointer (some ⟨b, 0, none⟩), w, ?_, Mut.refl _ w, ?_⟩
    · simp only [execOp, resolve, invoke, builtin, Sem.run_bind, Sem.run_pure, Result.andThen_ok, List.map_toArray, List.map_cons, List.map_nil, r1, Lib.run_unsafeSliceData_row w ts ty ⟨b, 0, none⟩ L cap (by omega)]
    · simp only [Rep]
      exact ⟨g, s.σ, rfl, .inr ⟨e, n, L, cs, he.1, Nat.le_refl _, fun _ => ⟨b, by rw [← q3, r1]; rfl, rfl⟩⟩, _, rfl⟩
theorem mut_freeze {w : World} {b n : Nat} : Mut (fun k => k = b) w (w.freeze ⟨b, 0, none⟩ n) := by
  unfold World.freeze
  split
  · exact Mut.refl _ w
  · exact ⟨rfl, rfl, rfl, by simp, fun k hk hn => by
      simp only [Array.getElem?_modify]
      rw [if_neg (fun e => hn e.symm)]⟩
theorem T.unsafeStr {id e pt it : Nat} {l : List UInt8} (x y : Operand) (hp : P.underlying pt = some (.pointer e)) (hc : P.cellsOf e = 1) (hl : 0 < l.length) (hL : l.length ≤ 9223372036854775807) :
    Tri P N ⟨dst, .call { callee := .builtin .unsafeString, args := #[x, y], argTypes := #[pt, it] }, ty, pos, af, gd⟩ [(x, .elp id l.length 0), (y, .flat (.int .i64 l.length))] [(id, some (.row e 1 l.length (bD l)))] (.flat (.string ⟨l.toArray⟩)) [(id, some .dead)] := by
  refine ⟨?_⟩
  intro w0 M0 B0 s a w next Q h1 h2 hd ⟨g, hs⟩ hk
  have he := h2.1
  have hvx := hs.eval x
  have hvy := hs.eval y
  rw [show evalD s.f x = .elp id l.length 0 from h1.1] at hvx
  rw [show evalD s.f y = .flat (.int .i64 l.length) from h1.2.1] at hvy
  simp only [Rep] at hvx hvy
  obtain ⟨g', σ', hG, h3, _⟩ := hvx
  cases hG
  simp only at he
  obtain ⟨b, h6, hx⟩ := (row_at he h3).2 rfl
  obtain ⟨vs, o1, o2⟩ := hs.ent id _ he
  have hvs := bD_rep o2
  rcases o1.2 with ⟨q1, _⟩ | ⟨g1, cap, cur, fz, q1, q2, q3, q4, q5, q6, q7⟩
  · rw [q1] at h6; cases h6
  · rw [q1] at h6
    simp only [Value.ownBlock, Option.some.injEq] at h6
    subst h6
    have hsh : w.shape? g1 = some (e, cur.size) := by simp [World.shape?, q2]
    have hrun := Lib.run_unsafeString_row (P := P) w pt it ty e hp hc g1 cur.size hsh l (fun h => by rw [h] at hl; exact absurd hl (by simp)) (by omega) hL (fun j u hj => by
      rw [add_off, Nat.zero_add]
      simp only [World.cell?, q2]
      have h5 : (cur.toList.take (l.length * 1))[j]? = some (.int .u8 u.toNat) := by rw [q7, hvs, List.getElem?_map, hj]; rfl
      rw [List.getElem?_take] at h5
      split at h5
      · simpa using h5
      · cases h5)
    have hex : (execOp a.eval ⟨dst, .call { callee := .builtin .unsafeString, args := #[x, y], argTypes := #[pt, it] }, ty, pos, af, gd⟩).run P w = .ok (.value (.string ⟨l.toArray⟩)) (w.freeze ⟨g1, 0, none⟩ l.length) := by
      simp only [execOp, resolve, invoke, builtin, Sem.run_bind, Sem.run_pure, Result.andThen_ok, List.map_toArray, List.map_cons, List.map_nil, hx, hvy, hrun]
    refine opIn_val hex ?_
    have hbo : blkOf g s.σ id = some g1 := by unfold blkOf; rw [he]; simp only [q1]; rfl
    have hgr : Grow (g, s.σ) (g, (id, some .dead) :: s.σ) := ⟨fun k c1 hk => by
        have hne : ¬ id = k := fun e1 => by subst e1; simp only at hk; rw [he] at hk; cases hk
        exact ⟨⟨c1, by rw [lkE_cons, if_neg hne]; exact hk⟩, rfl⟩, fun k e1 n1 l1 c1 hk => by
        by_cases e2 : id = k
        · subst e2; exact .inl (by rw [lkE_cons, if_pos rfl])
        · exact .inr ⟨e1, n1, l1, c1, by rw [lkE_cons, if_neg e2]; exact hk, Nat.le_refl _, fun _ => rfl⟩, fun k hk => by
        have hne : ¬ id = k := fun e1 => by subst e1; simp only at hk; rw [he] at hk; cases hk
        simp only at hk ⊢
        rw [lkE_cons, if_neg hne]; exact hk⟩
    refine hk _ _ ⟨g, hs.set1 id .dead (fun h0 => by rw [he] at h0; cases h0) (mut_freeze.mono (fun b _ e => by rw [e]; exact hbo)) (fun _ _ => rfl) (fun _ _ => rfl) hgr (fun b hb => ?_) (fun M hM => trivial) hd (fun M hM => by simp only [Rep])⟩
    simp [blkOf, lkE_cons] at hb
end
end Go.Dm

set_option linter.unusedSimpArgs false
set_option linter.unusedVariables false
set_option linter.unusedSectionVars false
set_option maxHeartbeats 400000
namespace Go.Dm
open Go Go.RowKit Go.PP
variable [GlobW] [Rnd]
/-- An empty row of one's own is there for the asking. -/
theorem Sub.phantom {N : Nat} {σ : Sg} {f : Fr} (id e n : Nat) (hi : lkE σ id = none) (hid : newId N id = true := by first | exact rfl | decide +kernel) : Sub N ⟨f, σ⟩ ⟨f, (id, some (.row e n 0 [])) :: σ⟩ := by
  intro w0 M0 B0 a w ⟨g, hs⟩
  have hn : ∀ k c, lkE σ k = some c → ¬ id = k := fun k c hk e => by subst e; rw [hi] at hk; cases hk
  have hb0 : blkOf g σ id = none := by unfold blkOf; rw [hi]
  have h1 := hs.set1 (g' := ⟨g.blk, fun k => if k = id then .slice none 0 0 else g.row k⟩) (w' := w) id (.row e n 0 []) (fun _ => hid) (Mut.refl _ w) (fun _ _ => rfl) (fun k hk => by simp [hk])
    ⟨fun k cs hk => ⟨⟨cs, by rw [lkE_cons, if_neg (hn k _ hk)]; exact hk⟩, rfl⟩, fun k e n len cs hk => .inr ⟨e, n, len, cs, by rw [lkE_cons, if_neg (hn k _ hk)]; exact hk, Nat.le_refl _, fun _ => by simp [show ¬ k = id from fun q => hn k _ hk q.symm]⟩, fun k hk => by simp only at hk ⊢; rw [lkE_cons, if_neg (hn k _ hk)]; exact hk⟩
    (fun b hb => by simp [blkOf, lkE_cons, Value.ownBlock] at hb) (fun M hM => ⟨[], by simp only [if_pos]; exact OwnR.nil _ _ _, by simp only [RepL]⟩) (dst := none) rfl (d := .any) (v := undef) (fun M hM => by simp only [Rep])
  exact ⟨_, h1⟩
section
variable {P : Program} {N : Nat} {dst : Option Tmp} {ty : TypeId} {pos : String} {af : Array Edge} {gd : Option (Nat × Bool)}
/-- A slot's slice made by append to nil becomes this empty row. -/
structure RowAt (k id : Nat) : Prop where
theorem T.appendRow {k id e n m bytes : Nat} {z : Value} {f : Bool} {ds : List D} (hk0 : RowAt k id) (t x y) (ht : P.underlying t = some (.slice e)) (hinfo : (P.info? e).map (fun i => (i.zero, i.size, i.bytes)) = some (some z, n, bytes)) (hzs : z.cells.size = n) (hsz : 0 < n) (hbp : 0 < bytes)
    (hm : 0 < m) (hby : m * bytes ≤ 140737488355328) :
    Tri P N ⟨some k, .call { callee := .builtin .append, args := #[x, y], argTypes := #[t, t] }, ty, pos, af, gd⟩ [(x, .flat (.slice none 0 0)), (y, .sl f n m ds)] [(id, some (.row e n 0 []))] (.own id m) [(id, some (.row e n m ds))] := by
  refine ⟨?_⟩
  intro w0 M0 B0 s a w next Q h1 h2 hd ⟨g, hs⟩ hk
  have he := h2.1
  have hvx := hs.eval x
  have hvy := hs.eval y
  rw [show evalD s.f x = .flat (.slice none 0 0) from h1.1] at hvx
  rw [show evalD s.f y = .sl f n m ds from h1.2.1] at hvy
  simp only [Rep] at hvx hvy
  obtain ⟨ad, c, r1, r2, r3, r4, r5, r6⟩ := hvy
  obtain ⟨news, n1, n2, n3⟩ : ∃ news : List Value, RepL (Mx M0 g s.σ) w none ds news ∧ (ad = none → news = []) ∧ ∀ a, ad = some a → ∀ j u, news[j]? = some u → w.cell? (a.add j) = some u := by
    rcases r6 with r6 | ⟨b, off, rfl, r7, r8⟩
    · have hds : ds = [] := List.eq_nil_of_length_eq_zero (by rw [r4]; exact r6)
      subst hds
      exact ⟨[], by simp only [RepL], fun _ => rfl, fun a _ j u h => by simp at h⟩
    · obtain ⟨news, q1, q2⟩ := RepC.vals r8
      exact ⟨news, q1, (fun h => by cases h), fun a ha j u hj => by cases ha; rw [add_off]; exact q2 j u hj⟩
  have hln : news.length = m * n := by rw [← n1.length]; exact r4
  have hsrc : Src P w t n m (.slice ad m c) news := Src.sl (c := c) ht hln n2 n3
  obtain ⟨cap, hcap, hmx, hr⟩ := run_appendF (P := P) t t ty e ht hinfo hzs hsz none 0 [] (by simp) (fun _ => rfl) (fun a h => by cases h) _ m news hsrc hln hm (by simpa using hby) hbp
  simp only [Nat.zero_add] at hcap hr
  refine opIn_val (run_app hvx r1 hr) ?_
  generalize hW : w.drew.alloc (.cells (([] : List Value).toArray ++ news.toArray ++ Builtin.zeroCells z.cells (cap - m)) e) = w'
  have hfx : Fix w w' := by rw [← hW]; exact (Mut.refl _ w).drew.alloc _
  have hnw : w'.heap[w.heap.size]? = some (.cells (([] : List Value).toArray ++ news.toArray ++ Builtin.zeroCells z.cells (cap - m)) e (0, 0)) := by rw [← hW]; exact heap_alloc_new w.drew _
  have hown : OwnR w' e n (.slice (some ⟨w.heap.size, 0, none⟩) m cap) m news := ⟨hln, .inr ⟨w.heap.size, cap, _, (0, 0), rfl, hnw, .inl rfl, hcap, hmx, by
      simp only [Array.size_append, List.size_toArray, List.length_nil, Nat.zero_add, size_zeroCells, hzs, hln, ← Nat.add_mul]
      congr 1; omega, by
      simp only [Array.toList_append, List.nil_append]
      rw [← hln]
      exact List.take_left⟩⟩
  have hgr : Grow (g, s.σ) (⟨g.blk, fun k => if k = id then .slice (some ⟨w.heap.size, 0, none⟩) m cap else g.row k⟩, (id, some (.row e n m ds)) :: s.σ) := ⟨fun k cs hk => by
      have hne : ¬ id = k := fun e1 => by subst e1; simp only at hk; rw [he] at hk; cases hk
      exact ⟨⟨cs, by rw [lkE_cons, if_neg hne]; exact hk⟩, rfl⟩, fun k e1 n1' l1 c1 hk => by
      by_cases e2 : id = k
      · subst e2
        simp only at hk
        rw [he] at hk; cases hk
        exact .inr ⟨e, n, m, _, by rw [lkE_cons, if_pos rfl], by omega, fun e3 => by omega⟩
      · exact .inr ⟨e1, n1', l1, c1, by rw [lkE_cons, if_neg e2]; exact hk, Nat.le_refl _, fun _ => by simp [show ¬ k = id from fun e => e2 e.symm]⟩, fun k hk => by
      have hne : ¬ id = k := fun e1 => by subst e1; simp only at hk; rw [he] at hk; cases hk
      simp only at hk ⊢
      rw [lkE_cons, if_neg hne]; exact hk⟩
  refine hk _ _ ⟨_, hs.row (v' := .slice (some ⟨w.heap.size, 0, none⟩) m cap) (vs' := news) (L' := m) (cs' := ds) he (hfx.mono (fun _ _ e => e.elim)) (by omega) (fun e => by omega) hown (fun b hb hlt => ?_) (fun M hM => ?_) hd (fun M hM => ?_)⟩
  · simp only [Value.ownBlock, Option.some.injEq] at hb
    omega
  · exact RepL.step (S := fun _ => False) (G := some _) (G' := some _) hgr hfx (fun _ _ e => e.elim) hM ds news n1.up
  · simp only [Rep]
    exact ⟨_, _, rfl, .inr ⟨e, n, m, ds, by rw [lkE_cons, if_pos rfl], Nat.le_refl _, fun _ => by simp⟩, _, _, rfl⟩
end
/-- Cells that may go along wherever this row is. -/
class MpC (cs : List D) (id : outParam Nat) (en : outParam Ent) : Prop where
  vl : ∀ lp : Sg, fnd lp id = some (some en) → VlL lp cs cs
  vs : ∀ σ σ' : Sg, lkE σ id = some en → lkE σ' id = some en → VsL σ σ' cs cs
theorem MpC.vl' {cs : List D} {id : Nat} {en : Ent} [h : MpC cs id en] {lp : Sg} (k : fnd lp id = some (some en)) : VlL lp cs cs := h.vl lp k
theorem MpC.vs' {cs : List D} {id : Nat} {en : Ent} [h : MpC cs id en] {σ σ' : Sg} (k : lkE σ id = some en) (k' : lkE σ' id = some en) : VsL σ σ' cs cs := h.vs σ σ' k k'
end Go.Dm
