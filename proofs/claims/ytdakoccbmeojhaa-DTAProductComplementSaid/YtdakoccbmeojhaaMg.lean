/- A machine over data: slices made, grown and stored into. No condition. -/
import Derived.Test.YtdakoccbmeojhaaMf
set_option linter.unusedSimpArgs false
set_option linter.unusedVariables false
set_option maxHeartbeats 400000
namespace Go.Dm
open Go Go.RowKit Go.PP

section
variable {P : Program} {N : Nat} {dst : Option Tmp} {ty : TypeId} {pos : String} {af : Array Edge} {gd : Option (Nat × Bool)}

/-! structs with few parts -/
theorem T.buildS0 {fs : List Field} {pl : List (Nat × Nat)} {z : Value} (t : TypeId) (ht : P.underlying t = some (.struct fs.toArray)) (hz : zeroT P t = some z) (hp : placesD P fs = some pl) :
    Tri P N ⟨dst, .build t #[], ty, pos, af, gd⟩ [] [] (.agg (flats z.cells)) [] := T.buildS t [] ht hz hp rfl
theorem T.buildS1 {fs : List Field} {pl : List (Nat × Nat)} {z : Value} {cs : List D} {i : Nat} {d : D} (t : TypeId) (x : Operand) (ht : P.underlying t = some (.struct fs.toArray)) (hz : zeroT P t = some z) (hp : placesD P fs = some pl)
    (h : fillD (fun i => pl[i]?) (flats z.cells) [(i, d)] = some cs) : Tri P N ⟨dst, .build t #[(i, x)], ty, pos, af, gd⟩ [(x, d)] [] (.agg cs) [] := T.buildS t [(i, x, d)] ht hz hp h
theorem T.buildS2 {fs : List Field} {pl : List (Nat × Nat)} {z : Value} {cs : List D} {i j : Nat} {d e : D} (t : TypeId) (x y : Operand) (ht : P.underlying t = some (.struct fs.toArray)) (hz : zeroT P t = some z) (hp : placesD P fs = some pl)
    (h : fillD (fun i => pl[i]?) (flats z.cells) [(i, d), (j, e)] = some cs) : Tri P N ⟨dst, .build t #[(i, x), (j, y)], ty, pos, af, gd⟩ [(x, d), (y, e)] [] (.agg cs) [] := T.buildS t [(i, x, d), (j, y, e)] ht hz hp h
theorem T.buildS3 {fs : List Field} {pl : List (Nat × Nat)} {z : Value} {cs : List D} {i j k : Nat} {d e f : D} (t : TypeId) (x y u : Operand) (ht : P.underlying t = some (.struct fs.toArray)) (hz : zeroT P t = some z) (hp : placesD P fs = some pl)
    (h : fillD (fun i => pl[i]?) (flats z.cells) [(i, d), (j, e), (k, f)] = some cs) : Tri P N ⟨dst, .build t #[(i, x), (j, y), (k, u)], ty, pos, af, gd⟩ [(x, d), (y, e), (u, f)] [] (.agg cs) [] := T.buildS t [(i, x, d), (j, y, e), (k, u, f)] ht hz hp h

/-! slices built -/
theorem run_buildSl {M : Nat → Prop} {w : World} {G : Cx} {ρ : Operand → Value} {len n e : Nat} {z : Value} {cs : List D} (t : TypeId) (ps : List (Nat × Operand × D)) (ht : P.underlying t = some (.slice e)) (hz : zeroT P e = some z) (hn : sizeOfT P e = some n)
    (hl : len * n ≤ 16777216) (h : ∀ base : List D, base.length = len * n → fillD (fun i => some (i * n, n)) base (partsF ps) = some cs) (hv : Vals M w G ρ (partsE ps)) :
    ∃ us : List Value, (execOp ρ ⟨dst, .buildSlice t len (partsO ps).toArray, ty, pos, af, gd⟩).run P w = .ok (.value (.slice (some ⟨w.heap.size, 0, none⟩) len len)) (w.alloc (.cells us.toArray e)) ∧ RepL M w G cs us := by
  obtain ⟨us, h1, h2⟩ := fill_rep (M := M) (w := w) (G := G) (ρ := ρ) (h (flats ((Array.range (len * n)).map ((if len * n = 0 then #[] else z.cells)[· % (if len * n = 0 then #[] else z.cells).size]!))) (by simp [flats])) (flats_rep _) hv
  refine ⟨us, ?_, h2⟩
  simp only [Array.toArray_toList] at h1
  simp only [execOp, Instr.buildSlice, Sem.run_bind, run_underlying ht, Result.andThen_ok, run_sizeOf hn]
  rw [if_neg (by omega)]
  by_cases h0 : len * n = 0
  · rw [if_pos h0] at h1
    rw [if_pos h0]
    simp only [Sem.run_bind, Sem.run_pure, Result.andThen_ok, parts_map]
    rw [h1]
    simp only [newRow, Sem.run_bind, run_newObj, Result.andThen_ok, Sem.run_pure]
  · rw [if_neg h0] at h1
    rw [if_neg h0]
    simp only [Sem.run_bind, run_zeroT hz, Sem.run_pure, Result.andThen_ok, parts_map]
    rw [h1]
    simp only [newRow, Sem.run_bind, run_newObj, Result.andThen_ok, Sem.run_pure]
theorem new_sl {M : Nat → Prop} {w : World} {G : Cx} {cs : List D} {us : List Value} {n len : Nat} {e : TypeId} (hM : ∀ b, M b → b < w.heap.size) (hr : RepL M w none cs us) (hl : cs.length = len * n) (hm : len ≤ 9223372036854775807) :
    Rep M (w.alloc (.cells us.toArray e)) G (.sl true n len cs) (.slice (some ⟨w.heap.size, 0, none⟩) len len) := by
  have hfx : Fix w (w.alloc (.cells us.toArray e)) := (Mut.refl _ w).alloc _
  simp only [Rep]
  refine ⟨_, len, rfl, Nat.le_refl _, fun _ => rfl, hl, hm, .inr ⟨w.heap.size, 0, rfl, fun h => by have := hM _ h; omega, RepC.of fun i d hd => ?_⟩⟩
  obtain ⟨u, hu, hr'⟩ := (hr.fix hfx).get i hd
  exact ⟨u, by rw [Nat.zero_add]; simp only [World.cell?]; rw [heap_alloc_new]; simpa using hu, hr'⟩
theorem T.buildSl {len n e : Nat} {z : Value} {cs : List D} (t : TypeId) (ps : List (Nat × Operand × D)) (ht : P.underlying t = some (.slice e)) (hz : zeroT P e = some z) (hn : sizeOfT P e = some n) (hl : len * n ≤ 16777216) (hm : len ≤ 9223372036854775807)
    (h : ∀ base : List D, base.length = len * n → fillD (fun i => some (i * n, n)) base (partsF ps) = some cs) (hp : persL cs = true) (hlc : cs.length = len * n) :
    Tri P N ⟨dst, .buildSlice t len (partsO ps).toArray, ty, pos, af, gd⟩ (partsE ps) [] (.sl true n len cs) [] := Tri.run fun M w G ρ hM hv => by
  obtain ⟨us, h1, h2⟩ := run_buildSl (P := P) (dst := dst) (ty := ty) (pos := pos) (af := af) (gd := gd) t ps ht hz hn hl h hv
  exact ⟨_, _, h1, (Mut.refl _ w).alloc _, new_sl hM (RepL.down cs us hp h2) hlc hm⟩
theorem T.buildOwn {len n e : Nat} {z : Value} {cs : List D} (id : Nat) (t : TypeId) (ps : List (Nat × Operand × D)) (ht : P.underlying t = some (.slice e)) (hz : zeroT P e = some z) (hn : sizeOfT P e = some n) (hl : len * n ≤ 16777216) (hm : len ≤ maxLen)
    (h : ∀ base : List D, base.length = len * n → fillD (fun i => some (i * n, n)) base (partsF ps) = some cs) (hlc : cs.length = len * n) :
    Tri P N ⟨dst, .buildSlice t len (partsO ps).toArray, ty, pos, af, gd⟩ (partsE ps) [(id, none)] (.own id len) [(id, some (.row e n len cs))] := Tri.make fun M w G ρ hv => by
  obtain ⟨us, h1, h2⟩ := run_buildSl (P := P) (dst := dst) (ty := ty) (pos := pos) (af := af) (gd := gd) t ps ht hz hn hl h hv
  exact ⟨_, us, e, h1, .inr ⟨n, len, cs, rfl, rfl, rfl, by rw [← h2.length]; exact hlc, hm, h2⟩⟩
theorem fill1 {n : Nat} {d : D} {cs base : List D} (h : cellsD d = some cs) (hl : cs.length = n) (hb : base.length = 1 * n) : fillD (fun i => some (i * n, n)) base [(0, d)] = some cs := by
  simp only [fillD, h, Nat.zero_mul, Nat.zero_add]
  rw [if_pos ⟨hl, by omega⟩]
  congr 1
  unfold spliceD
  simp; omega
theorem fill2 {n : Nat} {d d2 : D} {cs cs2 base : List D} (h : cellsD d = some cs) (hl : cs.length = n) (h2 : cellsD d2 = some cs2) (hl2 : cs2.length = n) (hb : base.length = 2 * n) : fillD (fun i => some (i * n, n)) base [(0, d), (1, d2)] = some (cs ++ cs2) := by
  simp only [fillD, h, h2, Nat.zero_mul, Nat.zero_add, Nat.one_mul]
  have hs : (spliceD base 0 cs).length = base.length := splice_len (by omega)
  rw [if_pos ⟨hl, by omega⟩, if_pos ⟨hl2, by omega⟩]
  congr 1
  unfold spliceD
  simp [hl]; omega
theorem T.buildSl1 {n e : Nat} {z : Value} {cs : List D} {d : D} (t : TypeId) (x : Operand) (ht : P.underlying t = some (.slice e)) (hz : zeroT P e = some z) (hn : sizeOfT P e = some n) (hd : cellsD d = some cs) (hl : cs.length = n) (hs : n ≤ 16777216) (hp : persL cs = true) :
    Tri P N ⟨dst, .buildSlice t 1 #[(0, x)], ty, pos, af, gd⟩ [(x, d)] [] (.sl true n 1 cs) [] :=
  T.buildSl t [(0, x, d)] ht hz hn (by omega) (by omega) (fun base hb => fill1 hd hl hb) hp (by omega)
theorem T.buildSl2 {n e : Nat} {z : Value} {cs cs2 : List D} {d d2 : D} (t : TypeId) (x y : Operand) (ht : P.underlying t = some (.slice e)) (hz : zeroT P e = some z) (hn : sizeOfT P e = some n) (hd : cellsD d = some cs) (hl : cs.length = n) (hd2 : cellsD d2 = some cs2) (hl2 : cs2.length = n) (hs : n ≤ 8388608) (hp : persL (cs ++ cs2) = true) :
    Tri P N ⟨dst, .buildSlice t 2 #[(0, x), (1, y)], ty, pos, af, gd⟩ [(x, d), (y, d2)] [] (.sl true n 2 (cs ++ cs2)) [] :=
  T.buildSl t [(0, x, d), (1, y, d2)] ht hz hn (by omega) (by omega) (fun base hb => fill2 hd hl hd2 hl2 hb) hp (by simp; omega)
theorem T.buildOwn0 {n e : Nat} {z : Value} (id : Nat) (t : TypeId) (ht : P.underlying t = some (.slice e)) (hz : zeroT P e = some z) (hn : sizeOfT P e = some n) :
    Tri P N ⟨dst, .buildSlice t 0 #[], ty, pos, af, gd⟩ [] [(id, none)] (.own id 0) [(id, some (.row e n 0 []))] :=
  T.buildOwn id t [] ht hz hn (by omega) (by omega) (fun base hb => by simp at hb; subst hb; rfl) (by simp)
theorem T.buildOwn1 {n e : Nat} {z : Value} {cs : List D} {d : D} (id : Nat) (t : TypeId) (x : Operand) (ht : P.underlying t = some (.slice e)) (hz : zeroT P e = some z) (hn : sizeOfT P e = some n) (hd : cellsD d = some cs) (hl : cs.length = n) (hs : n ≤ 16777216) :
    Tri P N ⟨dst, .buildSlice t 1 #[(0, x)], ty, pos, af, gd⟩ [(x, d)] [(id, none)] (.own id 1) [(id, some (.row e n 1 cs))] :=
  T.buildOwn id t [(0, x, d)] ht hz hn (by omega) (by decide) (fun base hb => fill1 hd hl hb) (by omega)

/-! a row of the call's own is changed -/
theorem StG.row {w0 : World} {M0 B0 : Nat → Prop} {g : Gh} {s : DS} {a : Act} {w w' : World} (h : StG w0 M0 B0 N g s a w) {id e n L L' : Nat} {cs cs' : List D} {v' : Value} {vs' : List Value} (he : lkE s.σ id = some (.row e n L cs)) (m : Mut (fun b => (g.row id).ownBlock = some b) w w')
    (hL : L ≤ L') (hv : L' = L → v' = g.row id) (hown : w'.ownsRow 0 e n v' L' vs') (hb : ∀ b, v'.ownBlock = some b → b < w.heap.size → (g.row id).ownBlock = some b)
    (hr : ∀ M : Nat → Prop, (∀ b, b < w.heap.size → M b → Mx M0 g s.σ b) → RepL M w' (some (⟨g.blk, fun k => if k = id then v' else g.row k⟩, (id, some (.row e n L' cs')) :: s.σ)) cs' vs')
    {dst : Option Tmp} (hd : dstOk N dst = true) {d : D} {v : Value} (hd2 : ∀ M : Nat → Prop, (∀ b, b < w.heap.size → M b → Mx M0 g s.σ b) → Rep M w' (some (⟨g.blk, fun k => if k = id then v' else g.row k⟩, (id, some (.row e n L' cs')) :: s.σ)) d v) :
    StG w0 M0 B0 N ⟨g.blk, fun k => if k = id then v' else g.row k⟩ ⟨updF s.f dst d, (id, some (.row e n L' cs')) :: s.σ⟩ (a.put dst v) w' := by
  have hbo : blkOf g s.σ id = (g.row id).ownBlock := by unfold blkOf; rw [he]
  refine h.set1 (g' := ⟨g.blk, fun k => if k = id then v' else g.row k⟩) id (.row e n L' cs') (m.mono fun b _ hb => by rw [hbo]; exact hb) (fun k hk => rfl) (fun k hk => by simp [hk]) ⟨fun k cs hk => ?_, fun k e1 n1 l1 c1 hk => ?_⟩ ?_ ?_ hd hd2
  · have hne : ¬ id = k := fun e1 => by subst e1; simp only at hk; rw [he] at hk; cases hk
    exact ⟨⟨cs, by rw [lkE_cons, if_neg hne]; exact hk⟩, rfl⟩
  · by_cases e2 : id = k
    · subst e2
      simp only at hk
      rw [he] at hk; cases hk
      exact ⟨e, n, L', cs', by rw [lkE_cons, if_pos rfl], hL, fun e3 => by simp; exact hv e3⟩
    · exact ⟨e1, n1, l1, c1, by rw [lkE_cons, if_neg e2]; exact hk, Nat.le_refl _, fun _ => by simp [show ¬ k = id from fun e => e2 e.symm]⟩
  · intro b hb'
    simp only [blkOf, lkE_cons, if_pos] at hb'
    refine ⟨?_, fun hlt => by rw [hbo]; exact hb b hb' hlt⟩
    rcases hown.2 with ⟨h1, _⟩ | ⟨g1, cap, cur, h1, h2, h3, _⟩
    · rw [h1] at hb'; simp [Value.ownBlock] at hb'
    · rw [h1] at hb'
      simp only [Value.ownBlock, Option.some.injEq] at hb'
      subst hb'
      exact (Array.getElem?_eq_some_iff.1 h3).1
  · intro M hM
    exact ⟨vs', by simpa using hown, hr M hM⟩

/-- 'append': the row, the frame, and where the new value lies. -/
theorem run_appendN {w : World} (t ty e : TypeId) {z : Value} {size bytes : Nat} (ht : P.underlying t = some (.slice e)) (hinfo : (P.info? e).map (fun i => (i.zero, i.size, i.bytes)) = some (some z, size, bytes)) (hzs : z.cells.size = size) (hsz : 0 < size)
    (v : Value) (n : Nat) (cs : List Value) (hown : w.ownsRow 0 e size v n cs) (ad : Option Addr) (m c : Nat) (news : List Value) (hl : news.length = m * size) (hnil : ad = none → m = 0) (hnews : ∀ a, ad = some a → ∀ j u, news[j]? = some u → w.cell? (a.add j) = some u) (h1 : ∀ u ∈ news, u.oneCell' = true)
    (hby : (n + m) * bytes ≤ 140737488355328) (hbp : 0 < bytes) :
    ∃ v' w', (Builtin.append_ #[t, t] ty #[v, .slice ad m c]).run P w = .ok v' w' ∧ w'.ownsRow 0 e size v' (n + m) (cs ++ news) ∧ w.grownBy w' v.ownBlock ∧
      (∀ k, v'.ownBlock = some k → v.ownBlock = some k ∨ k = w.heap.size) ∧ (m = 0 → v' = v) := by
  obtain ⟨i, hi, hz, hsize, hbytes⟩ := info_parts hinfo
  have hn : n + m ≤ 140737488355328 := Nat.le_trans (Nat.le_mul_of_pos_right _ hbp) hby
  by_cases hm : m = 0
  · subst hm
    have hnn : news = [] := List.eq_nil_of_length_eq_zero (by simpa using hl)
    subst hnn
    refine ⟨v, w, ?_, by simpa using hown, ⟨rfl, rfl, rfl, Nat.le_refl _, fun _ _ _ => rfl⟩, fun k hk => .inl hk, fun _ => rfl⟩
    have hfc : ∀ ad : Option Addr, (Builtin.firstCells i.size 0 (.slice ad 0 c)).run P w = .ok #[] w := fun ad => by
      cases ad <;> simp [Builtin.firstCells, loadCells, loadCellsFrom]
    rcases hown.2 with ⟨rfl, rfl⟩ | ⟨g, cap, cur, rfl, hbg, hg, hnc, hcm, hcs, htake⟩
    · simp [Builtin.append_, run_underlying ht, sizeOf, typeInfo, hi, Builtin.lenOf, hfc]
    · simp [Builtin.append_, run_underlying ht, sizeOf, typeInfo, hi, Builtin.lenOf, hfc, hnc, storeCells]
  · obtain ⟨a, rfl⟩ : ∃ a, ad = some a := by
      cases ad with
      | none => exact absurd (hnil rfl) hm
      | some a => exact ⟨a, rfl⟩
    have hnews := hnews a rfl
    obtain ⟨v', w', hr, q2, q3, _⟩ := run_append_own (P := P) w 0 t ty e i z size bytes ht hi hz hsize hbytes hzs hsz v n cs hown a m c news hl hnews h1 (by unfold maxLen; omega) hby (Nat.zero_le _)
    refine ⟨v', w', hr, q2, q3, ?_, fun e => absurd e hm⟩
    rcases hown.2 with ⟨rfl, hl0⟩ | ⟨g, cap, cur, rfl, hbg, hg, hnc, hcm, hcs, htake⟩
    · subst hl0
      have hr2 := run_append_nil (P := P) w t ty e i z ht hi hz a m c news (by rw [hsize]; exact hl) hnews (by omega) (by omega) (by rw [hbytes]; have := hby; rw [Nat.zero_add] at this; omega)
      rw [hr2] at hr
      simp only [Result.ok.injEq] at hr
      intro k hk
      rw [← hr.1] at hk; simp [Value.ownBlock] at hk; exact .inr hk.symm
    · by_cases hroom : n + m ≤ cap
      · have hfit : n * i.size + news.length ≤ cur.size := by rw [hl, hcs, hsize, ← Nat.add_mul]; exact Nat.mul_le_mul_right _ hroom
        have hr2 := run_append_room (P := P) w t ty e i ht hi g n cap cur hg a m c news (by rw [hsize]; exact hl) hnews h1 hroom hfit
        rw [hr2] at hr
        simp only [Result.ok.injEq] at hr
        intro k hk
        rw [← hr.1] at hk; simp [Value.ownBlock] at hk; exact .inl (by simp [Value.ownBlock, hk])
      · have holds : ∀ j u', cs[j]? = some u' → w.cell? ((⟨g, 0, none⟩ : Addr).add j) = some u' := hown.cells (g := g) rfl
        have hr2 := run_append_grow (P := P) w t ty e i z ht hi hz ⟨g, 0, none⟩ n cap cs (by rw [hsize]; exact hown.1) holds a m c news (by rw [hsize]; exact hl) hnews (by omega) (by omega) (growslice_fits (by omega) (by rw [hbytes]; exact hby))
        rw [hr2] at hr
        simp only [Result.ok.injEq] at hr
        intro k hk
        rw [← hr.1] at hk; simp [Value.ownBlock] at hk; exact .inr hk.symm
theorem T.append {id e n L m bytes : Nat} {z : Value} {f : Bool} {cs ds : List D} (t : TypeId) (x y : Operand) (ht : P.underlying t = some (.slice e)) (hinfo : (P.info? e).map (fun i => (i.zero, i.size, i.bytes)) = some (some z, n, bytes)) (hzs : z.cells.size = n) (hsz : 0 < n) (hbp : 0 < bytes)
    (ho : oneL ds = true) (hby : (L + m) * bytes ≤ 140737488355328) :
    Tri P N ⟨dst, .call { callee := .builtin .append, args := #[x, y], argTypes := #[t, t] }, ty, pos, af, gd⟩ [(x, .own id L), (y, .sl f n m ds)] [(id, some (.row e n L cs))] (.own id (L + m)) [(id, some (.row e n (L + m) (cs ++ ds)))] := by
  refine ⟨?_⟩
  intro w0 M0 B0 s a w next Q h1 h2 hd ⟨g, hs⟩ hk
  have he := h2.1
  have hvx := hs.eval x
  have hvy := hs.eval y
  rw [show evalD s.f x = .own id L from h1.1] at hvx
  rw [show evalD s.f y = .sl f n m ds from h1.2.1] at hvy
  obtain ⟨hu, vs, o1, o2⟩ := own_row hs he hvx
  simp only [Rep] at hvy
  obtain ⟨ad, c, r1, r2, r3, r4, r5, r6⟩ := hvy
  obtain ⟨news, n1, n2, n3⟩ : ∃ news : List Value, RepL (Mx M0 g s.σ) w none ds news ∧ (ad = none → m = 0) ∧ ∀ a, ad = some a → ∀ j u, news[j]? = some u → w.cell? (a.add j) = some u := by
    rcases r6 with r6 | ⟨b, off, rfl, r7, r8⟩
    · have hds : ds = [] := List.eq_nil_of_length_eq_zero (by rw [r4]; exact r6)
      subst hds
      refine ⟨[], by simp only [RepL], fun _ => ?_, fun a _ j u h => by simp at h⟩
      rcases Nat.mul_eq_zero.1 r6 with h | h
      · exact h
      · omega
    · obtain ⟨news, q1, q2⟩ := RepC.vals r8
      exact ⟨news, q1, (fun h => by cases h), fun a ha j u hj => by cases ha; rw [add_off]; exact q2 j u hj⟩
  obtain ⟨v', w', hr, p2, p3, p4, p5⟩ := run_appendN (P := P) t ty e ht hinfo hzs hsz _ L vs o1 ad m c news (by rw [← n1.length]; exact r4) n2 n3 (RepL.one ho n1) hby hbp
  have hex : (execOp a.eval ⟨dst, .call { callee := .builtin .append, args := #[x, y], argTypes := #[t, t] }, ty, pos, af, gd⟩).run P w = .ok (.value v') w' := by
    simp only [execOp, resolve, invoke, builtin, Sem.run_bind, Sem.run_pure, Result.andThen_ok, List.map_toArray, List.map_cons, List.map_nil, r1, hr]
  unfold Oper.wp
  rw [hex]
  have hm : Mut (fun b => (g.row id).ownBlock = some b) w w' := by
    have := (Mut.refl (fun b => (g.row id).ownBlock = some b) w).grown p3 (fun k hk _ => by rw [← hu]; exact hk)
    exact this
  have hgr : Grow (g, s.σ) (⟨g.blk, fun k => if k = id then v' else g.row k⟩, (id, some (.row e n (L + m) (cs ++ ds))) :: s.σ) := ⟨fun k cs hk => by
      have hne : ¬ id = k := fun e1 => by subst e1; simp only at hk; rw [he] at hk; cases hk
      exact ⟨⟨cs, by rw [lkE_cons, if_neg hne]; exact hk⟩, rfl⟩, fun k e1 n1' l1 c1 hk => by
      by_cases e2 : id = k
      · subst e2
        simp only at hk
        rw [he] at hk; cases hk
        exact ⟨e, n, L + m, _, by rw [lkE_cons, if_pos rfl], by omega, fun e3 => by simp; rw [p5 (by omega)]; exact hu⟩
      · exact ⟨e1, n1', l1, c1, by rw [lkE_cons, if_neg e2]; exact hk, Nat.le_refl _, fun _ => by simp [show ¬ k = id from fun e => e2 e.symm]⟩⟩
  have hS : ∀ b, b < w.heap.size → (g.row id).ownBlock = some b → Mx M0 g s.σ b := fun b _ hb => .inr ⟨id, by unfold blkOf; rw [he]; exact hb⟩
  obtain ⟨a5, c5, hv5⟩ : ∃ a c, v' = .slice a (L + m) c := by
    rcases p2.2 with ⟨h, h0⟩ | ⟨g1, cap, cur, h, _⟩
    · exact ⟨none, 0, by rw [h, h0]⟩
    · exact ⟨_, _, h⟩
  refine hk _ _ ⟨_, hs.row (v' := v') (vs' := vs ++ news) (L' := L + m) (cs' := cs ++ ds) he hm (by omega) (fun e => by rw [p5 (by omega)]; exact hu) p2 (fun b hb hlt => ?_) (fun M hM => ?_) hd (fun M hM => ?_)⟩
  · rcases p4 b hb with h | h
    · rw [← hu]; exact h
    · omega
  · exact RepL.append (RepL.step (G := some _) (G' := some _) hgr hm hS hM cs vs o2) (RepL.step (G := none) trivial hm hS hM ds news n1)
  · simp only [Rep]
    exact ⟨_, _, e, n, L + m, cs ++ ds, rfl, by rw [lkE_cons, if_pos rfl], Nat.le_refl _, fun _ => by simp, a5, c5, hv5⟩
end
end Go.Dm
