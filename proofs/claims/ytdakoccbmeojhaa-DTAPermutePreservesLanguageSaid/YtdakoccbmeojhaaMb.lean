/- A machine over data: slices made, grown and stored into. No condition. -/
import Derived.Test.YtdakoccbmeojhaaMa
import Derived.Deep.OwnRows
import Derived.Laws.Cover3
set_option linter.unusedSimpArgs false
set_option linter.unusedVariables false
set_option maxHeartbeats 400000
namespace Go.Dm
open Go Go.RowKit Go.PP

section
variable {P : Program} {N : Nat} {dst : Option Tmp} {ty : TypeId} {pos : String} {af : Array Edge} {gd : Option (Nat × Bool)}

/-! structs with few parts -/
theorem T.buildS0 {fs : List Field} {pl : List (Nat × Nat)} {z : Value} (t : TypeId) (ht : P.underlying t = some (.struct fs.toArray)) (hz : zeroT P t = some z) (hp : placesD P fs = some pl) :
    Tri P N ⟨dst, .build t #[], ty, pos, af, gd⟩ [] [] (.agg (flats z.cells)) [] := T.buildS t [] ht hz hp rfl
theorem T.buildS1 {fs : List Field} {pl : List (Nat × Nat)} {z : Value} {cs : List D} {i : Nat} {d : D} (t : TypeId) (x : Operand) (ht : P.underlying t = some (.struct fs.toArray)) (hz : zeroT P t = some z) (hp : placesD P fs = some pl)
    (h : fillD (fun i => pl[i]?) (flats z.cells) [(i, d)] = some cs) : Tri P N ⟨dst, .build t #[(i, x)], ty, pos, af, gd⟩ [(x, d)] [] (.agg cs) [] := T.buildS t [(i, x, d)] ht hz hp h
theorem T.buildS2 {fs : List Field} {pl : List (Nat × Nat)} {z : Value} {cs : List D} {i j : Nat} {d e : D} (t : TypeId) (x y : Operand) (ht : P.underlying t = some (.struct fs.toArray)) (hz : zeroT P t = some z) (hp : placesD P fs = some pl)
    (h : fillD (fun i => pl[i]?) (flats z.cells) [(i, d), (j, e)] = some cs) : Tri P N ⟨dst, .build t #[(i, x), (j, y)], ty, pos, af, gd⟩ [(x, d), (y, e)] [] (.agg cs) [] := T.buildS t [(i, x, d), (j, y, e)] ht hz hp h
theorem T.buildS3 {fs : List Field} {pl : List (Nat × Nat)} {z : Value} {cs : List D} {i j k : Nat} {d e f : D} (t : TypeId) (x y u : Operand) (ht : P.underlying t = some (.struct fs.toArray)) (hz : zeroT P t = some z) (hp : placesD P fs = some pl)
    (h : fillD (fun i => pl[i]?) (flats z.cells) [(i, d), (j, e), (k, f)] = some cs) : Tri P N ⟨dst, .build t #[(i, x), (j, y), (k, u)], ty, pos, af, gd⟩ [(x, d), (y, e), (u, f)] [] (.agg cs) [] := T.buildS t [(i, x, d), (j, y, e), (k, u, f)] ht hz hp h

/-! slices built -/
theorem run_buildSl {M : Nat → Prop} {w : World} {G : Cx} {ρ : Operand → Value} {len n e : Nat} {z : Value} {cs : List D} (t : TypeId) (ps : List (Nat × Operand × D)) (ht : P.underlying t = some (.slice e)) (hz : zeroT P e = some z) (hn : sizeOfT P e = some n)
    (hl : len * n ≤ 16777216) (h : ∀ base : List D, base.length = len * n → fillD (fun i => some (i * n, n)) base (partsF ps) = some cs) (hv : Vals M w G ρ (partsE ps)) :
    ∃ us : List Value, (execOp ρ ⟨dst, .buildSlice t len (partsO ps).toArray, ty, pos, af, gd⟩).run P w = .ok (.value (.slice (some ⟨w.heap.size, 0, none⟩) len len)) (w.alloc (.cells us.toArray e)) ∧ RepL M w G cs us := by
  obtain ⟨us, h1, h2⟩ := fill_rep (M := M) (w := w) (G := G) (ρ := ρ) (h (flats ((Array.range (len * n)).map ((if len * n = 0 then #[] else z.cells)[· % (if len * n = 0 then #[] else z.cells).size]!))) (by simp [flats])) (flats_rep _) hv
  refine ⟨us, ?_, h2⟩
  simp only [Array.toArray_toList] at h1
  simp only [execOp, Instr.buildSlice, Sem.run_bind, run_underlying ht, Result.andThen_ok, run_sizeOf hn]
  rw [if_neg (by omega)]
  by_cases h0 : len * n = 0
  · rw [if_pos h0] at h1
    rw [if_pos h0]
    simp only [Sem.run_bind, Sem.run_pure, Result.andThen_ok, parts_map]
    rw [h1]
    simp only [newRow, Sem.run_bind, run_newObj, Result.andThen_ok, Sem.run_pure]
  · rw [if_neg h0] at h1
    rw [if_neg h0]
    simp only [Sem.run_bind, run_zeroT hz, Sem.run_pure, Result.andThen_ok, parts_map]
    rw [h1]
    simp only [newRow, Sem.run_bind, run_newObj, Result.andThen_ok, Sem.run_pure]
theorem new_sl {M : Nat → Prop} {w : World} {G : Cx} {cs : List D} {us : List Value} {n len : Nat} {e : TypeId} (hM : ∀ b, M b → b < w.heap.size) (hr : RepL M w none cs us) (hl : cs.length = len * n) (hm : len ≤ 9223372036854775807) :
    Rep M (w.alloc (.cells us.toArray e)) G (.sl true n len cs) (.slice (some ⟨w.heap.size, 0, none⟩) len len) := by
  have hfx : Fix w (w.alloc (.cells us.toArray e)) := (Mut.refl _ w).alloc _
  simp only [Rep]
  refine ⟨_, len, rfl, Nat.le_refl _, fun _ => rfl, hl, hm, .inr ⟨w.heap.size, 0, rfl, fun h => by have := hM _ h; omega, RepC.of fun i d hd => ?_⟩⟩
  obtain ⟨u, hu, hr'⟩ := (hr.fix hfx).get i hd
  exact ⟨u, by rw [Nat.zero_add]; simp only [World.cell?]; rw [heap_alloc_new]; simpa using hu, hr'⟩
theorem T.buildSl {len n e : Nat} {z : Value} {cs : List D} (t : TypeId) (ps : List (Nat × Operand × D)) (ht : P.underlying t = some (.slice e)) (hz : zeroT P e = some z) (hn : sizeOfT P e = some n) (hl : len * n ≤ 16777216) (hm : len ≤ 9223372036854775807)
    (h : ∀ base : List D, base.length = len * n → fillD (fun i => some (i * n, n)) base (partsF ps) = some cs) (hp : persL cs = true) (hlc : cs.length = len * n) :
    Tri P N ⟨dst, .buildSlice t len (partsO ps).toArray, ty, pos, af, gd⟩ (partsE ps) [] (.sl true n len cs) [] := Tri.run fun M w G ρ hM hv => by
  obtain ⟨us, h1, h2⟩ := run_buildSl (P := P) (dst := dst) (ty := ty) (pos := pos) (af := af) (gd := gd) t ps ht hz hn hl h hv
  exact ⟨_, _, h1, (Mut.refl _ w).alloc _, new_sl hM (RepL.down cs us hp h2) hlc hm⟩
theorem T.buildOwn {len n e : Nat} {z : Value} {cs : List D} (id : Nat) (t : TypeId) (ps : List (Nat × Operand × D)) (ht : P.underlying t = some (.slice e)) (hz : zeroT P e = some z) (hn : sizeOfT P e = some n) (hl : len * n ≤ 16777216) (hm : len ≤ maxLen)
    (h : ∀ base : List D, base.length = len * n → fillD (fun i => some (i * n, n)) base (partsF ps) = some cs) (hlc : cs.length = len * n) (hid : newId N id = true := by first | exact rfl | decide +kernel) :
    Tri P N ⟨dst, .buildSlice t len (partsO ps).toArray, ty, pos, af, gd⟩ (partsE ps) [(id, none)] (.own id len) [(id, some (.row e n len cs))] := Tri.make hid fun M w G ρ hv => by
  obtain ⟨us, h1, h2⟩ := run_buildSl (P := P) (dst := dst) (ty := ty) (pos := pos) (af := af) (gd := gd) t ps ht hz hn hl h hv
  exact ⟨_, us, e, h1, .inr ⟨n, len, cs, rfl, rfl, rfl, by rw [← h2.length]; exact hlc, hm, h2⟩⟩
theorem fill1 {n : Nat} {d : D} {cs base : List D} (h : cellsD d = some cs) (hl : cs.length = n) (hb : base.length = 1 * n) : fillD (fun i => some (i * n, n)) base [(0, d)] = some cs := by
  simp only [fillD, h, Nat.zero_mul, Nat.zero_add]
  rw [if_pos ⟨hl, by omega⟩]
  congr 1
  unfold spliceD
  simp; omega
theorem fill2 {n : Nat} {d d2 : D} {cs cs2 base : List D} (h : cellsD d = some cs) (hl : cs.length = n) (h2 : cellsD d2 = some cs2) (hl2 : cs2.length = n) (hb : base.length = 2 * n) : fillD (fun i => some (i * n, n)) base [(0, d), (1, d2)] = some (cs ++ cs2) := by
  simp only [fillD, h, h2, Nat.zero_mul, Nat.zero_add, Nat.one_mul]
  have hs : (spliceD base 0 cs).length = base.length := splice_len (by omega)
  rw [if_pos ⟨hl, by omega⟩, if_pos ⟨hl2, by omega⟩]
  congr 1
  unfold spliceD
  simp [hl]; omega
theorem T.buildSl1 {n e : Nat} {z : Value} {cs : List D} {d : D} (t : TypeId) (x : Operand) (ht : P.underlying t = some (.slice e)) (hz : zeroT P e = some z) (hn : sizeOfT P e = some n) (hd : cellsD d = some cs) (hl : cs.length = n) (hs : n ≤ 16777216) (hp : persL cs = true) :
    Tri P N ⟨dst, .buildSlice t 1 #[(0, x)], ty, pos, af, gd⟩ [(x, d)] [] (.sl true n 1 cs) [] :=
  T.buildSl t [(0, x, d)] ht hz hn (by omega) (by omega) (fun base hb => fill1 hd hl hb) hp (by omega)
theorem T.buildSl2 {n e : Nat} {z : Value} {cs cs2 : List D} {d d2 : D} (t : TypeId) (x y : Operand) (ht : P.underlying t = some (.slice e)) (hz : zeroT P e = some z) (hn : sizeOfT P e = some n) (hd : cellsD d = some cs) (hl : cs.length = n) (hd2 : cellsD d2 = some cs2) (hl2 : cs2.length = n) (hs : n ≤ 8388608) (hp : persL (cs ++ cs2) = true) :
    Tri P N ⟨dst, .buildSlice t 2 #[(0, x), (1, y)], ty, pos, af, gd⟩ [(x, d), (y, d2)] [] (.sl true n 2 (cs ++ cs2)) [] :=
  T.buildSl t [(0, x, d), (1, y, d2)] ht hz hn (by omega) (by omega) (fun base hb => fill2 hd hl hd2 hl2 hb) hp (by simp; omega)
theorem T.buildOwn0 {n e : Nat} {z : Value} (id : Nat) (t : TypeId) (ht : P.underlying t = some (.slice e)) (hz : zeroT P e = some z) (hn : sizeOfT P e = some n) (hid : newId N id = true := by first | exact rfl | decide +kernel) :
    Tri P N ⟨dst, .buildSlice t 0 #[], ty, pos, af, gd⟩ [] [(id, none)] (.own id 0) [(id, some (.row e n 0 []))] :=
  T.buildOwn id t [] ht hz hn (by omega) (by omega) (fun base hb => by simp at hb; subst hb; rfl) (by simp) hid
theorem T.buildOwn1 {n e : Nat} {z : Value} {cs : List D} {d : D} (id : Nat) (t : TypeId) (x : Operand) (ht : P.underlying t = some (.slice e)) (hz : zeroT P e = some z) (hn : sizeOfT P e = some n) (hd : cellsD d = some cs) (hl : cs.length = n) (hs : n ≤ 16777216) (hid : newId N id = true := by first | exact rfl | decide +kernel) :
    Tri P N ⟨dst, .buildSlice t 1 #[(0, x)], ty, pos, af, gd⟩ [(x, d)] [(id, none)] (.own id 1) [(id, some (.row e n 1 cs))] :=
  T.buildOwn id t [(0, x, d)] ht hz hn (by omega) (by decide) (fun base hb => fill1 hd hl hb) (by omega) hid

/-! a row of the call's own is changed -/
theorem StG.row {w0 : World} {M0 : Nat → Prop} {B0 : Bd} {g : Gh} {s : DS} {a : Act} {w w' : World} (h : StG w0 M0 B0 N g s a w) {id e n L L' : Nat} {cs cs' : List D} {v' : Value} {vs' : List Value} (he : lkE s.σ id = some (.row e n L cs)) (m : Mut (fun b => (g.row id).ownBlock = some b) w w')
    (hL : L ≤ L') (hv : L' = L → v' = g.row id) (hown : w'.ownsRow 0 e n v' L' vs') (hb : ∀ b, v'.ownBlock = some b → b < w.heap.size → (g.row id).ownBlock = some b)
    (hr : ∀ M : Nat → Prop, (∀ b, b < w.heap.size → M b → Mx M0 g s.σ b) → RepL M w' (some (⟨g.blk, fun k => if k = id then v' else g.row k⟩, (id, some (.row e n L' cs')) :: s.σ)) cs' vs')
    {dst : Option Tmp} (hd : dstOk N dst = true) {d : D} {v : Value} (hd2 : ∀ M : Nat → Prop, (∀ b, b < w.heap.size → M b → Mx M0 g s.σ b) → Rep M w' (some (⟨g.blk, fun k => if k = id then v' else g.row k⟩, (id, some (.row e n L' cs')) :: s.σ)) d v) :
    StG w0 M0 B0 N ⟨g.blk, fun k => if k = id then v' else g.row k⟩ ⟨updF s.f dst d, (id, some (.row e n L' cs')) :: s.σ⟩ (a.put dst v) w' := by
  have hbo : blkOf g s.σ id = (g.row id).ownBlock := by unfold blkOf; rw [he]
  refine h.set1 (g' := ⟨g.blk, fun k => if k = id then v' else g.row k⟩) id (.row e n L' cs') (fun h0 => by rw [he] at h0; cases h0) (m.mono fun b _ hb => by rw [hbo]; exact hb) (fun k hk => rfl) (fun k hk => by simp [hk]) ⟨fun k cs hk => ?_, fun k e1 n1 l1 c1 hk => ?_, fun k hk => by
        have hne : ¬ id = k := fun e1 => by subst e1; simp only at hk; rw [he] at hk; cases hk
        simp only at hk ⊢
        rw [lkE_cons, if_neg hne]; exact hk⟩ ?_ ?_ hd hd2
  · have hne : ¬ id = k := fun e1 => by subst e1; simp only at hk; rw [he] at hk; cases hk
    exact ⟨⟨cs, by rw [lkE_cons, if_neg hne]; exact hk⟩, rfl⟩
  · by_cases e2 : id = k
    · subst e2
      simp only at hk
      rw [he] at hk; cases hk
      exact .inr ⟨e, n, L', cs', by rw [lkE_cons, if_pos rfl], hL, fun e3 => by simp; exact hv e3⟩
    · exact .inr ⟨e1, n1, l1, c1, by rw [lkE_cons, if_neg e2]; exact hk, Nat.le_refl _, fun _ => by simp [show ¬ k = id from fun e => e2 e.symm]⟩
  · intro b hb'
    simp only [blkOf, lkE_cons, if_pos] at hb'
    refine ⟨?_, fun hlt => by rw [hbo]; exact hb b hb' hlt⟩
    rcases hown.2 with ⟨h1, _⟩ | ⟨g1, cap, cur, h1, h2, h3, _⟩
    · rw [h1] at hb'; simp [Value.ownBlock] at hb'
    · rw [h1] at hb'
      simp only [Value.ownBlock, Option.some.injEq] at hb'
      subst hb'
      exact (Array.getElem?_eq_some_iff.1 h3).1
  · intro M hM
    exact ⟨vs', by simpa using hown, hr M hM⟩

/-- 'append': the row, the frame, and where the new value lies. -/
theorem run_appendN {w : World} (t ty e : TypeId) {z : Value} {size bytes : Nat} (ht : P.underlying t = some (.slice e)) (hinfo : (P.info? e).map (fun i => (i.zero, i.size, i.bytes)) = some (some z, size, bytes)) (hzs : z.cells.size = size) (hsz : 0 < size)
    (v : Value) (n : Nat) (cs : List Value) (hown : w.ownsRow 0 e size v n cs) (ad : Option Addr) (m c : Nat) (news : List Value) (hl : news.length = m * size) (hnil : ad = none → m = 0) (hnews : ∀ a, ad = some a → ∀ j u, news[j]? = some u → w.cell? (a.add j) = some u) (h1 : ∀ u ∈ news, u.oneCell' = true)
    (hby : (n + m) * bytes ≤ 140737488355328) (hbp : 0 < bytes) :
    ∃ v' w', (Builtin.append_ #[t, t] ty #[v, .slice ad m c]).run P w = .ok v' w' ∧ w'.ownsRow 0 e size v' (n + m) (cs ++ news) ∧ w.grownBy w' v.ownBlock ∧
      (∀ k, v'.ownBlock = some k → v.ownBlock = some k ∨ k = w.heap.size) ∧ (m = 0 → v' = v) := by
  obtain ⟨i, hi, hz, hsize, hbytes⟩ := info_parts hinfo
  have hn : n + m ≤ 140737488355328 := Nat.le_trans (Nat.le_mul_of_pos_right _ hbp) hby
  by_cases hm : m = 0
  · subst hm
    have hnn : news = [] := List.eq_nil_of_length_eq_zero (by simpa using hl)
    subst hnn
    refine ⟨v, w, ?_, by simpa using hown, ⟨rfl, rfl, rfl, Nat.le_refl _, fun _ _ _ => rfl⟩, fun k hk => .inl hk, fun _ => rfl⟩
    have hfc : ∀ ad : Option Addr, (Builtin.firstCells i.size 0 (.slice ad 0 c)).run P w = .ok #[] w := fun ad => by
      cases ad <;> simp [Builtin.firstCells, loadCells, loadCellsFrom]
    rcases hown.2 with ⟨rfl, rfl⟩ | ⟨g, cap, cur, rfl, hbg, hg, hnc, hcm, hcs, htake⟩
    · simp [Builtin.append_, run_underlying ht, sizeOf, typeInfo, hi, Builtin.lenOf, hfc]
    · simp [Builtin.append_, run_underlying ht, sizeOf, typeInfo, hi, Builtin.lenOf, hfc, hnc, storeCells]
  · obtain ⟨a, rfl⟩ : ∃ a, ad = some a := by
      cases ad with
      | none => exact absurd (hnil rfl) hm
      | some a => exact ⟨a, rfl⟩
    have hnews := hnews a rfl
    obtain ⟨v', w', hr, q2, q3, _⟩ := run_append_own (P := P) w 0 t ty e i z size bytes ht hi hz hsize hbytes hzs hsz v n cs hown a m c news hl hnews h1 (by unfold maxLen; omega) hby (Nat.zero_le _)
    refine ⟨v', w', hr, q2, q3, ?_, fun e => absurd e hm⟩
    rcases hown.2 with ⟨rfl, hl0⟩ | ⟨g, cap, cur, rfl, hbg, hg, hnc, hcm, hcs, htake⟩
    · subst hl0
      have hr2 := run_append_nil (P := P) w t ty e i z ht hi hz a m c news (by rw [hsize]; exact hl) hnews (by omega) (by omega) (by rw [hbytes]; have := hby; rw [Nat.zero_add] at this; omega)
      rw [hr2] at hr
      simp only [Result.ok.injEq] at hr
      intro k hk
      rw [← hr.1] at hk; simp [Value.ownBlock] at hk; exact .inr hk.symm
    · by_cases hroom : n + m ≤ cap
      · have hfit : n * i.size + news.length ≤ cur.size := by rw [hl, hcs, hsize, ← Nat.add_mul]; exact Nat.mul_le_mul_right _ hroom
        have hr2 := run_append_room (P := P) w t ty e i ht hi g n cap cur hg a m c news (by rw [hsize]; exact hl) hnews h1 hroom hfit
        rw [hr2] at hr
        simp only [Result.ok.injEq] at hr
        intro k hk
        rw [← hr.1] at hk; simp [Value.ownBlock] at hk; exact .inl (by simp [Value.ownBlock, hk])
      · have holds : ∀ j u', cs[j]? = some u' → w.cell? ((⟨g, 0, none⟩ : Addr).add j) = some u' := hown.cells (g := g) rfl
        have hr2 := run_append_grow (P := P) w t ty e i z ht hi hz ⟨g, 0, none⟩ n cap cs (by rw [hsize]; exact hown.1) holds a m c news (by rw [hsize]; exact hl) hnews (by omega) (by omega) (growslice_fits (by omega) (by rw [hbytes]; exact hby))
        rw [hr2] at hr
        simp only [Result.ok.injEq] at hr
        intro k hk
        rw [← hr.1] at hk; simp [Value.ownBlock] at hk; exact .inr hk.symm
theorem T.appendG {id e n L m bytes : Nat} {z : Value} {f : Bool} {cs ds : List D} {dy : D} (t : TypeId) (x y : Operand) (ht : P.underlying t = some (.slice e)) (hinfo : (P.info? e).map (fun i => (i.zero, i.size, i.bytes)) = some (some z, n, bytes)) (hzs : z.cells.size = n) (hsz : 0 < n) (hbp : 0 < bytes)
    (hle : Le dy (.sl f n m ds)) (ho : oneL ds = true) (hby : (L + m) * bytes ≤ 140737488355328) :
    Tri P N ⟨dst, .call { callee := .builtin .append, args := #[x, y], argTypes := #[t, t] }, ty, pos, af, gd⟩ [(x, .own id L), (y, dy)] [(id, some (.row e n L cs))] (.own id (L + m)) [(id, some (.row e n (L + m) (cs ++ ds)))] := by
  refine ⟨?_⟩
  intro w0 M0 B0 s a w next Q h1 h2 hd ⟨g, hs⟩ hk
  have he := h2.1
  have hvx := hs.eval x
  have hvy := hs.eval y
  rw [show evalD s.f x = .own id L from h1.1] at hvx
  rw [show evalD s.f y = dy from h1.2.1] at hvy
  replace hvy := hle _ _ _ _ hs.mlt hvy
  obtain ⟨hu, vs, o1, o2⟩ := own_row hs he hvx
  simp only [Rep] at hvy
  obtain ⟨ad, c, r1, r2, r3, r4, r5, r6⟩ := hvy
  obtain ⟨news, n1, n2, n3⟩ : ∃ news : List Value, RepL (Mx M0 g s.σ) w none ds news ∧ (ad = none → m = 0) ∧ ∀ a, ad = some a → ∀ j u, news[j]? = some u → w.cell? (a.add j) = some u := by
    rcases r6 with r6 | ⟨b, off, rfl, r7, r8⟩
    · have hds : ds = [] := List.eq_nil_of_length_eq_zero (by rw [r4]; exact r6)
      subst hds
      refine ⟨[], by simp only [RepL], fun _ => ?_, fun a _ j u h => by simp at h⟩
      rcases Nat.mul_eq_zero.1 r6 with h | h
      · exact h
      · omega
    · obtain ⟨news, q1, q2⟩ := RepC.vals r8
      exact ⟨news, q1, (fun h => by cases h), fun a ha j u hj => by cases ha; rw [add_off]; exact q2 j u hj⟩
  obtain ⟨v', w', hr, p2, p3, p4, p5⟩ := run_appendN (P := P) t ty e ht hinfo hzs hsz _ L vs o1 ad m c news (by rw [← n1.length]; exact r4) n2 n3 (RepL.one ho n1) hby hbp
  have hex : (execOp a.eval ⟨dst, .call { callee := .builtin .append, args := #[x, y], argTypes := #[t, t] }, ty, pos, af, gd⟩).run P w = .ok (.value v') w' := by
    simp only [execOp, resolve, invoke, builtin, Sem.run_bind, Sem.run_pure, Result.andThen_ok, List.map_toArray, List.map_cons, List.map_nil, r1, hr]
  unfold Oper.wp
  rw [hex]
  have hm : Mut (fun b => (g.row id).ownBlock = some b) w w' := by
    have := (Mut.refl (fun b => (g.row id).ownBlock = some b) w).grown p3 (fun k hk _ => by rw [← hu]; exact hk)
    exact this
  have hgr : Grow (g, s.σ) (⟨g.blk, fun k => if k = id then v' else g.row k⟩, (id, some (.row e n (L + m) (cs ++ ds))) :: s.σ) := ⟨fun k cs hk => by
      have hne : ¬ id = k := fun e1 => by subst e1; simp only at hk; rw [he] at hk; cases hk
      exact ⟨⟨cs, by rw [lkE_cons, if_neg hne]; exact hk⟩, rfl⟩, fun k e1 n1' l1 c1 hk => by
      by_cases e2 : id = k
      · subst e2
        simp only at hk
        rw [he] at hk; cases hk
        exact .inr ⟨e, n, L + m, _, by rw [lkE_cons, if_pos rfl], by omega, fun e3 => by simp; rw [p5 (by omega)]; exact hu⟩
      · exact .inr ⟨e1, n1', l1, c1, by rw [lkE_cons, if_neg e2]; exact hk, Nat.le_refl _, fun _ => by simp [show ¬ k = id from fun e => e2 e.symm]⟩, fun k hk => by
      have hne : ¬ id = k := fun e1 => by subst e1; simp only at hk; rw [he] at hk; cases hk
      simp only at hk ⊢
      rw [lkE_cons, if_neg hne]; exact hk⟩
  have hS : ∀ b, b < w.heap.size → (g.row id).ownBlock = some b → Mx M0 g s.σ b := fun b _ hb => .inr ⟨id, by unfold blkOf; rw [he]; exact hb⟩
  obtain ⟨a5, c5, hv5⟩ : ∃ a c, v' = .slice a (L + m) c := by
    rcases p2.2 with ⟨h, h0⟩ | ⟨g1, cap, cur, h, _⟩
    · exact ⟨none, 0, by rw [h, h0]⟩
    · exact ⟨_, _, h⟩
  refine hk _ _ ⟨_, hs.row (v' := v') (vs' := vs ++ news) (L' := L + m) (cs' := cs ++ ds) he hm (by omega) (fun e => by rw [p5 (by omega)]; exact hu) p2 (fun b hb hlt => ?_) (fun M hM => ?_) hd (fun M hM => ?_)⟩
  · rcases p4 b hb with h | h
    · rw [← hu]; exact h
    · omega
  · exact RepL.append (RepL.step (G := some _) (G' := some _) hgr hm hS hM cs vs o2) (RepL.step (G := none) trivial hm hS hM ds news n1)
  · simp only [Rep]
    exact ⟨_, _, rfl, .inr ⟨e, n, L + m, cs ++ ds, by rw [lkE_cons, if_pos rfl], Nat.le_refl _, fun _ => by simp⟩, a5, c5, hv5⟩
theorem T.append {id e n L m bytes : Nat} {z : Value} {f : Bool} {cs ds : List D} (t : TypeId) (x y : Operand) (ht : P.underlying t = some (.slice e)) (hinfo : (P.info? e).map (fun i => (i.zero, i.size, i.bytes)) = some (some z, n, bytes)) (hzs : z.cells.size = n) (hsz : 0 < n) (hbp : 0 < bytes)
    (ho : oneL ds = true) (hby : (L + m) * bytes ≤ 140737488355328) :
    Tri P N ⟨dst, .call { callee := .builtin .append, args := #[x, y], argTypes := #[t, t] }, ty, pos, af, gd⟩ [(x, .own id L), (y, .sl f n m ds)] [(id, some (.row e n L cs))] (.own id (L + m)) [(id, some (.row e n (L + m) (cs ++ ds)))] := T.appendG t x y ht hinfo hzs hsz hbp (Le.refl _) ho hby
end
end Go.Dm
/- A machine over data: stores, made and cut slices, calls, results. No condition. -/
set_option linter.unusedSimpArgs false
set_option linter.unusedVariables false
set_option maxHeartbeats 400000
namespace Go.Dm
open Go Go.RowKit Go.PP

section
variable {P : Program} {N : Nat} {dst : Option Tmp} {ty : TypeId} {pos : String} {af : Array Edge} {gd : Option (Nat × Bool)}

theorem splice_cons {α : Type} {vs us : List α} {o : Nat} {u : α} (h : o + (us.length + 1) ≤ vs.length) : spliceD (vs.set o u) (o + 1) us = spliceD vs o (u :: us) := by
  apply List.ext_getElem?
  intro k
  rw [splice_get (by simp; omega), splice_get (by simp; omega)]
  simp only [List.length_cons, List.getElem?_set]
  by_cases h1 : k < o
  · rw [if_pos (by omega), if_neg (by omega), if_pos h1]
  · by_cases h2 : k = o
    · subst h2
      simp; omega
    · rw [if_neg (by omega), if_neg h1]
      by_cases h3 : k < o + 1 + us.length
      · rw [if_pos h3, if_pos (by omega)]
        rw [show k - o = (k - (o + 1)) + 1 by omega]; simp
      · rw [if_neg h3, if_neg (by omega), if_neg (by omega)]
theorem setCells_heap (b : Nat) (T : TypeId) : ∀ (us vs : List Value) (o : Nat) (w : World), w.heap[b]? = some (.cells vs.toArray T (0, 0)) → o + us.length ≤ vs.length → (w.setCells b o us).heap[b]? = some (.cells (spliceD vs o us).toArray T (0, 0))
  | [], vs, o, w, h, hl => by rw [World.setCells, h]; simp [spliceD]
  | u :: us, vs, o, w, h, hl => by
    rw [World.setCells, setCells_heap b T us (vs.set o u) (o + 1) _ ?_ (by simp at hl ⊢; omega), splice_cons (by simpa using hl)]
    simp [World.setCell, Array.getElem?_modify, h]
theorem setCells_mut (b : Nat) : ∀ (us : List Value) (o : Nat) (w : World), Mut (fun k => k = b) w (w.setCells b o us)
  | [], o, w => Mut.refl _ w
  | u :: us, o, w => ((Mut.refl (fun k => k = b) w).setCell (p := ⟨b, o, none⟩) (fun _ => rfl) u).trans (setCells_mut b us (o + 1) _)
theorem run_storeAt {w : World} {b off n : Nat} {t : TypeId} {v : Value} {us vs : List Value} {T : TypeId} (hn : sizeOfT P t = some n) (hv : v.cells = us.toArray) (hl : us.length = n) (h1 : ∀ u ∈ us, u.oneCell' = true) (hb : w.heap[b]? = some (.cells vs.toArray T (0, 0))) (ho : off + us.length ≤ vs.length) :
    (Instr.storeAt t (.pointer (some ⟨b, off, none⟩)) v).run P w = .ok () (w.setCells b off us) := by
  have := run_storeCells_cells (P := P) b off us 0 w (fun j hj => by simp only [World.cell?, hb]; simp; omega) (fun j hj => by simp [World.frozen?, hb]) h1
  simp only [Nat.add_zero] at this
  simp only [Instr.storeAt, Instr.sureAddr, storeVar, Sem.run_bind, Sem.run_pure, Result.andThen_ok, run_sizeOf hn, hv, List.size_toArray, hl, ne_eq, not_true_eq_false, if_false, this]
theorem T.storeRef {id off n : Nat} {cs ds : List D} {d : D} (t : TypeId) (x y : Operand) (hn : sizeOfT P t = some n) (hc : cellsD d = some ds) (hl : ds.length = n) (ho : oneL ds = true) (hle : off + n ≤ cs.length) :
    Tri P N ⟨dst, .store t x y, ty, pos, af, gd⟩ [(x, .ref id off), (y, d)] [(id, some (.box cs))] (.flat undef) [(id, some (.box (spliceD cs off ds)))] := by
  refine ⟨?_⟩
  intro w0 M0 B0 s a w next Q h1 h2 hd ⟨g, hs⟩ hk
  have he := h2.1
  have hvx := hs.eval x
  have hvy := hs.eval y
  rw [show evalD s.f x = .ref id off from h1.1] at hvx
  rw [show evalD s.f y = d from h1.2.1] at hvy
  simp only [Rep] at hvx
  obtain ⟨g', σ', cs0, hG, _, hx⟩ := hvx
  cases hG
  obtain ⟨vs, T, o1, o2⟩ := hs.ent id _ he
  obtain ⟨us, u1, u2⟩ := cellsD_rep hc hvy
  have hl1 := o2.length
  have hl2 := u2.length
  have hrun := run_storeAt (P := P) (w := w) (b := g.blk id) (off := off) (v := a.eval y) (us := us) (vs := vs) (T := T) hn u1 (by omega) (RepL.one ho u2) o1 (by omega)
  have hex : (execOp a.eval ⟨dst, .store t x y, ty, pos, af, gd⟩).run P w = .ok .skip (w.setCells (g.blk id) off us) := by
    simp only [execOp, hx, Sem.run_bind, hrun, Result.andThen_ok, Sem.run_pure]
  unfold Oper.wp
  rw [hex]
  have hbo : blkOf g s.σ id = some (g.blk id) := by unfold blkOf; rw [he]
  have hm : Mut (fun b => blkOf g s.σ id = some b) w (w.setCells (g.blk id) off us) := (setCells_mut (g.blk id) us off w).mono (fun b _ e => by rw [e]; exact hbo)
  have hS : ∀ b, b < w.heap.size → blkOf g s.σ id = some b → Mx M0 g s.σ b := fun b _ hb => .inr ⟨id, hb⟩
  have hgr : Grow (g, s.σ) (g, (id, some (.box (spliceD cs off ds))) :: s.σ) := ⟨fun k c1 hk => by
      by_cases e2 : id = k
      · subst e2; exact ⟨⟨_, by rw [lkE_cons, if_pos rfl]⟩, rfl⟩
      · exact ⟨⟨c1, by rw [lkE_cons, if_neg e2]; exact hk⟩, rfl⟩, fun k e1 n1 l1 c1 hk => by
      by_cases e2 : id = k
      · subst e2; simp only at hk; rw [he] at hk; cases hk
      · exact .inr ⟨e1, n1, l1, c1, by rw [lkE_cons, if_neg e2]; exact hk, Nat.le_refl _, fun _ => rfl⟩, fun k hk => by
      have hne : ¬ id = k := fun e1 => by subst e1; simp only at hk; rw [he] at hk; cases hk
      simp only at hk ⊢
      rw [lkE_cons, if_neg hne]; exact hk⟩
  refine hk _ _ ⟨g, hs.set1 id (.box (spliceD cs off ds)) (fun h0 => by rw [he] at h0; cases h0) hm (fun _ _ => rfl) (fun _ _ => rfl) hgr (fun b hb => ?_) (fun M hM => ?_) hd (fun M hM => by simp only [Rep])⟩
  · simp only [blkOf, lkE_cons, if_pos, Option.some.injEq] at hb
    subst hb
    exact ⟨Nat.lt_of_lt_of_le (Array.getElem?_eq_some_iff.1 o1).1 hm.size, fun _ => hbo⟩
  · exact ⟨_, T, setCells_heap _ T us vs off w o1 (by omega), RepL.splice (RepL.step (G := some _) (G' := some _) hgr hm hS hM cs vs o2) (RepL.step (G := some _) (G' := some _) hgr hm hS hM ds us u2)⟩
theorem T.storeElp {id L off n e en : Nat} {cs ds : List D} {d : D} (t : TypeId) (x y : Operand) (hn : sizeOfT P t = some n) (hc : cellsD d = some ds) (hl : ds.length = n) (ho : oneL ds = true) (hle : off + n ≤ cs.length) :
    Tri P N ⟨dst, .store t x y, ty, pos, af, gd⟩ [(x, .elp id L off), (y, d)] [(id, some (.row e en L cs))] (.flat undef) [(id, some (.row e en L (spliceD cs off ds)))] := by
  refine ⟨?_⟩
  intro w0 M0 B0 s a w next Q h1 h2 hd ⟨g, hs⟩ hk
  have he := h2.1
  have hvx := hs.eval x
  have hvy := hs.eval y
  rw [show evalD s.f x = .elp id L off from h1.1] at hvx
  rw [show evalD s.f y = d from h1.2.1] at hvy
  simp only [Rep] at hvx
  obtain ⟨g', σ', hG, h3, _⟩ := hvx
  cases hG
  simp only at he
  obtain ⟨b, h6, hx⟩ := (row_at he h3).2 rfl
  obtain ⟨vs, o1, o2⟩ := hs.ent id _ he
  obtain ⟨us, u1, u2⟩ := cellsD_rep hc hvy
  have hl1 := o2.length
  have hl2 := u2.length
  have o1' := o1
  rcases o1.2 with ⟨q1, q2⟩ | ⟨b', cap, cur, q1, q2, q3, q4, q5, q6, q7⟩
  · rw [q1] at h6; cases h6
  rw [q1] at h6
  simp only [Value.ownBlock, Option.some.injEq] at h6
  subst h6
  have hcl : L * en ≤ cur.toList.length := by simp [q6]; exact Nat.mul_le_mul_right _ q4
  have hvl := o1.1
  have q3' : w.heap[b']? = some (.cells cur.toList.toArray e (0, 0)) := by simpa using q3
  have hrun := run_storeAt (P := P) (w := w) (b := b') (off := off) (v := a.eval y) (us := us) (vs := cur.toList) (T := e) hn u1 (by omega) (RepL.one ho u2) q3' (by omega)
  have hex : (execOp a.eval ⟨dst, .store t x y, ty, pos, af, gd⟩).run P w = .ok .skip (w.setCells b' off us) := by
    simp only [execOp, hx, Sem.run_bind, hrun, Result.andThen_ok, Sem.run_pure]
  unfold Oper.wp
  rw [hex]
  have hob : (g.row id).ownBlock = some b' := by rw [q1]; rfl
  have hm : Mut (fun b => (g.row id).ownBlock = some b) w (w.setCells b' off us) := (setCells_mut b' us off w).mono (fun b _ e => by rw [e]; exact hob)
  have hS : ∀ b, b < w.heap.size → (g.row id).ownBlock = some b → Mx M0 g s.σ b := fun b _ hb => .inr ⟨id, by unfold blkOf; rw [he]; exact hb⟩
  have hgr : Grow (g, s.σ) (⟨g.blk, fun k => if k = id then g.row id else g.row k⟩, (id, some (.row e en L (spliceD cs off ds))) :: s.σ) := ⟨fun k c1 hk => by
      by_cases e2 : id = k
      · subst e2; simp only at hk; rw [he] at hk; cases hk
      · exact ⟨⟨c1, by rw [lkE_cons, if_neg e2]; exact hk⟩, rfl⟩, fun k e1 n1 l1 c1 hk => by
      by_cases e2 : id = k
      · subst e2
        simp only at hk
        rw [he] at hk; cases hk
        exact .inr ⟨e, en, L, _, by rw [lkE_cons, if_pos rfl], Nat.le_refl _, fun _ => by simp⟩
      · exact .inr ⟨e1, n1, l1, c1, by rw [lkE_cons, if_neg e2]; exact hk, Nat.le_refl _, fun _ => by simp [show ¬ k = id from fun e => e2 e.symm]⟩, fun k hk => by
      have hne : ¬ id = k := fun e1 => by subst e1; simp only at hk; rw [he] at hk; cases hk
      simp only at hk ⊢
      rw [lkE_cons, if_neg hne]; exact hk⟩
  refine hk _ _ ⟨_, hs.row (v' := g.row id) (vs' := spliceD vs off us) (L' := L) (cs' := spliceD cs off ds) he hm (Nat.le_refl _) (fun _ => rfl) ?_ (fun b hb _ => hb) (fun M hM => ?_) hd (fun M hM => by simp only [Rep])⟩
  · refine ⟨by rw [splice_len (by omega)]; exact hvl, .inr ⟨b', cap, (spliceD cur.toList off us).toArray, q1, q2, setCells_heap b' e us cur.toList off w q3' (by omega), q4, q5, by simp [splice_len (show off + us.length ≤ cur.toList.length by omega), q6], ?_⟩⟩
    apply List.ext_getElem?
    intro k
    rw [List.toList_toArray, List.getElem?_take, splice_get (by omega), splice_get (by omega)]
    have hcv : ∀ k, k < L * en → cur.toList[k]? = vs[k]? := fun k hk => by
      rw [← q7, List.getElem?_take, if_pos hk]
    by_cases hk : k < L * en
    · rw [if_pos hk, hcv k hk]
    · rw [if_neg hk, if_neg (by omega), if_neg (by omega), List.getElem?_eq_none (by omega)]
  · exact RepL.splice (RepL.step (G := some _) (G' := some _) hgr hm hS hM cs vs o2) (RepL.step (G := some _) (G' := some _) hgr hm hS hM ds us u2)

/-! made slices -/
theorem T.makeSl {e n bytes : Nat} {z : Value} {kl kc : IntKind} (id : Nat) (t : TypeId) (x y : Operand) (ht : P.underlying t = some (.slice e)) (hinfo : (P.info? e).map (fun i => (i.zero, i.size, i.bytes)) = some (some z, 1, bytes)) (hz1 : z.cells = #[z])
    (hb : bytes * n ≤ 281474976710656) (hn : n ≤ maxLen) (hid : newId N id = true := by first | exact rfl | decide +kernel) :
    Tri P N ⟨dst, .makeSlice t x y, ty, pos, af, gd⟩ [(x, .flat (.int kl n)), (y, .flat (.int kc n))] [(id, none)] (.own id n) [(id, some (.row e 1 n (List.replicate n (.flat z))))] :=
  Tri.make hid fun M w G ρ hv => by
    have hr := run_make_row' (P := P) t e z bytes ht hinfo hz1 kl kc n hb (by unfold maxLen at hn; omega) w
    refine ⟨_, (madeCells #[z] n).toList, e, by simp only [execOp, hv.one, hv.2.one, Sem.run_bind, hr, Result.andThen_ok, Sem.run_pure, Array.toArray_toList], .inr ⟨1, n, _, rfl, rfl, rfl, by simp [size_madeCells], hn, ?_⟩⟩
    refine RepL.of (by simp [size_madeCells]) fun i d u h1 h2 => ?_
    have hd : d = .flat z := by
      rw [List.getElem?_replicate] at h1
      split at h1
      · cases h1; rfl
      · cases h1
    have hu : u = z := by
      have hi := (List.getElem?_eq_some_iff.1 h2).1
      simp [size_madeCells] at hi
      simp [madeCells, hi, Nat.mod_one] at h2
      exact h2.symm
    subst hd; subst hu
    simp only [Rep]

/-! cut slices -/
theorem sliced_rep {M : Nat → Prop} {w : World} {G : Cx} {f : Bool} {n len lo hi : Nat} {cs : List D} {a : Option Addr} {cap : Nat} (h : Rep M w G (.sl f n len cs) (.slice a len cap)) (h1 : lo ≤ hi) (h2 : hi ≤ len) : Rep M w G (.sl false n (hi - lo) ((cs.drop (lo * n)).take ((hi - lo) * n))) (sliced a lo hi cap n) := by
  simp only [Rep] at h ⊢
  obtain ⟨a', cap', q0, q1, _, q3, q4, q5⟩ := h
  simp only [Value.slice.injEq, true_and] at q0
  obtain ⟨rfl, rfl⟩ := q0
  have hm : lo * n + (hi - lo) * n = hi * n := by rw [← Nat.add_mul]; congr 1; omega
  have hm2 : hi * n ≤ len * n := Nat.mul_le_mul_right _ h2
  refine ⟨_, _, rfl, by omega, fun e => (by cases e), by simp; omega, by omega, ?_⟩
  by_cases h0 : (hi - lo) * n = 0
  · exact .inl h0
  · rcases q5 with q5 | ⟨b, off, rfl, q6, q7⟩
    · omega
    · have hlc : ¬ cap = lo := fun e => h0 (by rw [show hi - lo = 0 by omega]; simp)
      refine .inr ⟨b, off + lo * n, by simp [hlc, add_off], q6, RepC.of fun i d hd => ?_⟩
      rw [List.getElem?_take] at hd
      split at hd
      · rw [List.getElem?_drop] at hd
        obtain ⟨u, hu, hr⟩ := q7.get _ hd
        exact ⟨u, by rw [Nat.add_assoc]; exact hu, hr⟩
      · cases hd
theorem P_elem {t e : TypeId} (ht : P.underlying t = some (.slice e)) : P.elem t = e := by simp [Program.elem, ht]
theorem run_cut {t e : TypeId} {n : Nat} {w : World} {v : Value} {lo hi : Option Value} {r : Value} (ht : P.underlying t = some (.slice e)) (h : (Instr.slice t v lo hi none).run P w = .ok r w) : (Instr.sliceAt t v lo hi none).run P w = .ok r w := by
  rw [run_sliceAt_slice (P := P) w t v lo hi none (by rw [P_elem ht]; exact ht)]; exact h
theorem T.cutH {f : Bool} {n len e h : Nat} {k : IntKind} {cs : List D} (t : TypeId) (x y : Operand) (ht : P.underlying t = some (.slice e)) (hn : sizeOfT P e = some n) (h2 : h ≤ len) :
    Tri P N ⟨dst, .slice t x none (some y) none, ty, pos, af, gd⟩ [(x, .sl f n len cs), (y, .flat (.int k h))] [] (.sl false n h (cs.take (h * n))) [] := Tri.val fun M w G ρ hv => by
  have q1 := hv.1
  have q2 := hv.2.one
  have q1' := q1
  simp only [Rep] at q1
  obtain ⟨a, cap, r1, r2, _⟩ := q1
  have hr := run_slice_h (P := P) w t a len cap (by rw [P_elem ht]; exact ht) k h (by omega) (by omega)
  rw [P_elem ht, run_sizeOf hn] at hr
  simp only [Result.andThen_ok, Int.toNat_natCast] at hr
  rw [r1] at q1'
  have hrep := sliced_rep (lo := 0) (hi := h) q1' (Nat.zero_le _) h2
  simp only [Nat.zero_mul, Nat.sub_zero, List.drop_zero] at hrep
  refine ⟨_, ?_, hrep⟩
  simp only [execOp, r1, q2, Option.map_none, Option.map_some, Sem.run_bind, run_cut (P := P) (n := n) ht hr, Result.andThen_ok, Sem.run_pure]
theorem T.cutL {f : Bool} {n len e l : Nat} {k : IntKind} {cs : List D} (t : TypeId) (x y : Operand) (ht : P.underlying t = some (.slice e)) (hn : sizeOfT P e = some n) (h2 : l ≤ len) :
    Tri P N ⟨dst, .slice t x (some y) none none, ty, pos, af, gd⟩ [(x, .sl f n len cs), (y, .flat (.int k l))] [] (.sl false n (len - l) (cs.drop (l * n))) [] := Tri.val fun M w G ρ hv => by
  have q1 := hv.1
  have q2 := hv.2.one
  have q1' := q1
  simp only [Rep] at q1
  obtain ⟨a, cap, r1, r2, _, r4, _⟩ := q1
  have hr := run_slice_l (P := P) w t a len cap (by rw [P_elem ht]; exact ht) k l (by omega) (by omega)
  rw [P_elem ht, run_sizeOf hn] at hr
  simp only [Result.andThen_ok, Int.toNat_natCast] at hr
  rw [r1] at q1'
  have hrep := sliced_rep (lo := l) (hi := len) q1' h2 (Nat.le_refl _)
  rw [List.take_of_length_le (by simp [r4, Nat.sub_mul])] at hrep
  refine ⟨_, ?_, hrep⟩
  simp only [execOp, r1, q2, Option.map_none, Option.map_some, Sem.run_bind, run_cut (P := P) (n := n) ht hr, Result.andThen_ok, Sem.run_pure]

/-! calls -/
def Enters (P : Program) (k : FuncId) : Prop := ∀ (args : Array Value) (w : World), (callFunc k args).run P w = .ok (.enter k args) w
theorem vals_repL {M : Nat → Prop} {w : World} {G : Cx} {ρ : Operand → Value} : ∀ {pf : List (Operand × D)}, Vals M w G ρ pf → RepL M w G (pf.map (·.2)) (pf.map fun p => ρ p.1)
  | [], _ => by simp [RepL]
  | p :: r, h => by simp only [List.map_cons, RepL]; exact ⟨_, _, rfl, h.1, vals_repL h.2⟩
theorem Tri.calls {o : Oper} {k : FuncId} {pf : List (Operand × D)} {pe : Sg} {d : D} (hex : ∀ (w0 : World) (M0 : Nat → Prop) (B0 : Bd) (g : Gh) (s : DS) (a : Act) (w : World), StG w0 M0 B0 N g s a w → Ens s.σ pe → Vals (Mx M0 g s.σ) w (some (g, s.σ)) a.eval pf →
    ∃ args : Array Value, (execOp a.eval o).run P w = .ok (.enter k args) w ∧ Calls P k args w (fun e w' => ∃ v, e = .returned v ∧ Rep (Mx M0 g s.σ) w' (some (g, s.σ)) d v ∧ Fix w w')) : Tri P N o pf pe d [] := by
  refine ⟨?_⟩
  intro w0 M0 B0 s a w next Q h1 h2 hd ⟨g, hs⟩ hk
  obtain ⟨args, hr, hc⟩ := hex w0 M0 B0 g s a w hs h2 (hs.vals h1)
  unfold Oper.wp
  rw [hr, Oper.upon_enter]
  exact hc.mono fun e w' ⟨v, q1, q2, q3⟩ => by subst q1; exact hk _ _ ⟨g, hs.pure q3 hd q2⟩
theorem run_callS {k : FuncId} {as : List Operand} {ts : Array TypeId} (he : Enters P k) (ρ : Operand → Value) (hρ : ρ (.func k) = .func (.func k) #[] #[]) (w : World) :
    (execOp ρ ⟨dst, .call { callee := .value (.func k), args := as.toArray, argTypes := ts }, ty, pos, af, gd⟩).run P w = .ok (.enter k (as.map ρ).toArray) w := by
  simp only [execOp, resolve, hρ, Deferred.ofValue, Sem.run_bind, Sem.run_pure, Result.andThen_ok, invoke, List.map_toArray]
  have := he ((as.map ρ).toArray) w
  simpa using this
/-- A call of a known function with data that do without the call's own boxes and rows. -/
theorem T.call {k : FuncId} {as : List Operand} {ts : Array TypeId} {ds ds' : List D} {d : D} (he : Enters P k) (hf : DFun P k ds d) (hl : as.length = ds'.length) (hp : persL ds' = true) (hle : LeL ds' ds) :
    Tri P N ⟨dst, .call { callee := .value (.func k), args := as.toArray, argTypes := ts }, ty, pos, af, gd⟩ (as.zip ds') [] d [] := Tri.calls (k := k) fun w0 M0 B0 g s a w hs _ hv => by
  refine ⟨_, run_callS he a.eval rfl w, ?_⟩
  have h1 := vals_repL hv
  rw [show (as.zip ds').map (·.2) = ds' from by rw [List.map_snd_zip (by omega)], show ((as.zip ds').map fun p => a.eval p.1) = as.map a.eval from by rw [show (fun p : Operand × D => a.eval p.1) = a.eval ∘ Prod.fst from rfl, ← List.map_map, List.map_fst_zip (by omega)]] at h1
  exact (hf _ w _ hs.mlt (LeL.rep hs.mlt hle (RepL.down ds' _ hp h1))).mono fun e w' ⟨v, q1, q2, q3⟩ => ⟨v, q1, q2.up, q3⟩
/-- The same with a look into the call's own boxes and rows; what comes back does without memory. -/
theorem T.callV {k : FuncId} {as : List Operand} {ts : Array TypeId} {ds ds' : List D} {d : D} (pe : Sg) (he : Enters P k) (hf : DFun P k ds d) (hl : as.length = ds'.length) (hp : VwL pe ds' ds) (hd : noMem d = true) :
    Tri P N ⟨dst, .call { callee := .value (.func k), args := as.toArray, argTypes := ts }, ty, pos, af, gd⟩ (as.zip ds') pe d [] := Tri.calls (k := k) fun w0 M0 B0 g s a w hs hpe hv => by
  refine ⟨_, run_callS he a.eval rfl w, ?_⟩
  have h1 := vals_repL hv
  rw [show (as.zip ds').map (·.2) = ds' from by rw [List.map_snd_zip (by omega)], show ((as.zip ds').map fun p => a.eval p.1) = as.map a.eval from by rw [show (fun p : Operand × D => a.eval p.1) = a.eval ∘ Prod.fst from rfl, ← List.map_map, List.map_fst_zip (by omega)]] at h1
  exact (hf _ w _ (fun b hb => hs.mlt b hb.sub) (VwL.rep hs hpe hp h1)).mono fun e w' ⟨v, q1, q2, q3⟩ => ⟨v, q1, q2.noMem _ _ hd, q3⟩
/-- A call of a function value. -/
theorem T.callC {k : FuncId} {x : Operand} {as : List Operand} {ts : Array TypeId} {first cap ds ds' : List D} {d : D} (pe : Sg) (he : Enters P k) (hf : DFun P k ds d) (hl : as.length = ds'.length) (hp : VwL pe (first ++ ds' ++ cap) ds) (hd : noMem d = true) :
    Tri P N ⟨dst, .call { callee := .value x, args := as.toArray, argTypes := ts }, ty, pos, af, gd⟩ ((x, .clo (.func k) first cap) :: as.zip ds') pe d [] := Tri.calls (k := k) fun w0 M0 B0 g s a w hs hpe hv => by
  have h0 := hv.1
  simp only [Rep] at h0
  obtain ⟨fs, us, hx, hf1, hc1⟩ := h0
  have hrun : (execOp a.eval ⟨dst, .call { callee := .value x, args := as.toArray, argTypes := ts }, ty, pos, af, gd⟩).run P w = .ok (.enter k (fs ++ as.map a.eval ++ us).toArray) w := by
    simp only [execOp, resolve, hx, Deferred.ofValue, Sem.run_bind, Sem.run_pure, Result.andThen_ok, invoke, List.map_toArray]
    have := he ((fs ++ as.map a.eval ++ us).toArray) w
    simpa using this
  refine ⟨_, hrun, ?_⟩
  have h1 := vals_repL hv.2
  rw [show (as.zip ds').map (·.2) = ds' from by rw [List.map_snd_zip (by omega)], show ((as.zip ds').map fun p => a.eval p.1) = as.map a.eval from by rw [show (fun p : Operand × D => a.eval p.1) = a.eval ∘ Prod.fst from rfl, ← List.map_map, List.map_fst_zip (by omega)]] at h1
  exact (hf _ w _ (fun b hb => hs.mlt b hb.sub) (VwL.rep hs hpe hp (RepL.append (RepL.append hf1 h1) hc1))).mono fun e w' ⟨v, q1, q2, q3⟩ => ⟨v, q1, q2.noMem _ _ hd, q3⟩
theorem T.makeFunc {k : Fn} {fs cs : List Operand} {fd cd : List D} (hl : fs.length = fd.length) (hl2 : cs.length = cd.length) :
    Tri P N ⟨dst, .makeFunc k fs.toArray cs.toArray, ty, pos, af, gd⟩ (fs.zip fd ++ cs.zip cd) [] (.clo k fd cd) [] := Tri.val fun M w G ρ hv => by
  have h1 := vals_repL hv
  have hz : ∀ {as : List Operand} {ds : List D}, as.length = ds.length → (as.zip ds).map (·.2) = ds ∧ ((as.zip ds).map fun p => ρ p.1) = as.map ρ := fun {as ds} h => ⟨by rw [List.map_snd_zip (by omega)], by rw [show (fun p : Operand × D => ρ p.1) = ρ ∘ Prod.fst from rfl, ← List.map_map, List.map_fst_zip (by omega)]⟩
  have split : ∀ {pf qf : List (Operand × D)}, Vals M w G ρ (pf ++ qf) → Vals M w G ρ pf ∧ Vals M w G ρ qf := fun {pf qf} h => by
    induction pf with
    | nil => exact ⟨trivial, h⟩
    | cons p r ih => obtain ⟨q1, q2⟩ := ih h.2; exact ⟨⟨h.1, q1⟩, q2⟩
  obtain ⟨s1, s2⟩ := split hv
  have v1 := vals_repL s1
  have v2 := vals_repL s2
  rw [(hz hl).1, (hz hl).2] at v1
  rw [(hz hl2).1, (hz hl2).2] at v2
  exact ⟨.func k (fs.map ρ).toArray (cs.map ρ).toArray, by simp [execOp, Instr.makeFunc], by simp only [Rep]; exact ⟨_, _, rfl, v1, v2⟩⟩

/-! results -/
theorem Vw.out {pe : Sg} {d d' : D} {w0 : World} {M0 : Nat → Prop} {B0 : Bd} {g : Gh} {s : DS} {a : Act} {w : World} (hs : StG w0 M0 B0 N g s a w) (he : Ens s.σ pe) (h : Vw pe d d') {v : Value} (hv : Rep (Mx M0 g s.σ) w (some (g, s.σ)) d v) : Rep M0 w none d' v :=
  (h w0 M0 B0 N g s a w hs he v hv).mono fun b _ hb => .inl hb
theorem ResOk.one {fn : Func} {s : DS} {t : Tmp} {d d' : D} (pe : Sg) (hr : fn.results = #[.tmp t]) (hd : lkF s.f t = d) (he : Ens s.σ pe) (h : Vw pe d d') : ResOk P fn s d' := fun w0 M0 B0 N g a w hs =>
  ⟨a.tmps.getD t undef, by simp [results, hr], h.out hs he (by rw [← hd]; exact hs.tm t)⟩
theorem ResOk.two {fn : Func} {s : DS} {t u : Tmp} {d d' e e' : D} (pe : Sg) (hr : fn.results = #[.tmp t, .tmp u]) (hd : lkF s.f t = d) (hd2 : lkF s.f u = e) (he : Ens s.σ pe) (h : Vw pe d d') (h2 : Vw pe e e') : ResOk P fn s (.tup [d', e']) := fun w0 M0 B0 N g a w hs =>
  ⟨.tuple #[a.tmps.getD t undef, a.tmps.getD u undef], by simp [results, hr], by
    simp only [Rep]
    refine ⟨[_, _], rfl, ?_⟩
    simp only [RepL]
    exact ⟨_, _, rfl, h.out hs he (by rw [← hd]; exact hs.tm t), _, _, rfl, h2.out hs he (by rw [← hd2]; exact hs.tm u), rfl⟩⟩
theorem run_loadBox {w0 : World} {M0 : Nat → Prop} {B0 : Bd} {g : Gh} {s : DS} {a : Act} {w : World} (hs : StG w0 M0 B0 N g s a w) {id t : Nat} {bb : Bool} {n : Nat} {cs : List D} {d : D} (he : lkE s.σ id = some (.box cs)) (hb : aggOf P t = some bb) (hn : sizeOfT P t = some n) (h : partD bb n 0 cs = some d) {v : Value} (hv : Rep (Mx M0 g s.σ) w (some (g, s.σ)) (.ref id 0) v) :
    ∃ x u, (asAddr v).run P w = .ok x w ∧ (loadVar t x).run P w = .ok u w ∧ Rep (Mx M0 g s.σ) w (some (g, s.σ)) d u := by
  simp only [Rep] at hv
  obtain ⟨g', σ', cs0, hG, h2, h3⟩ := hv
  cases hG
  obtain ⟨vs, T, o1, o2⟩ := hs.ent id _ he
  obtain ⟨v, r1, r2⟩ := run_loadAt_rep (P := P) (b := g.blk id) (o := 0) hb hn h (fun i u hu => by simp only [World.cell?, o1, Nat.zero_add]; simpa using hu) o2
  simp only [Instr.loadAt, Instr.sureAddr, Nat.add_zero, Sem.run_bind, Sem.run_pure, Result.andThen_ok] at r1
  exact ⟨_, v, by rw [h3]; simp [asAddr], r1, r2⟩
theorem ResOk.cell {fn : Func} {s : DS} {x : Tmp} {t id n : Nat} {bb : Bool} {cs : List D} {d d' : D} (pe : Sg) (hr : fn.results = #[.cell x t]) (hx : lkF s.f x = .ref id 0) (hi : lkE s.σ id = some (.box cs)) (hb : aggOf P t = some bb) (hn : sizeOfT P t = some n) (hd : partD bb n 0 cs = some d) (he : Ens s.σ pe) (h : Vw pe d d') : ResOk P fn s d' := fun w0 M0 B0 N g a w hs => by
  have h0 := hs.tm x
  rw [hx] at h0
  obtain ⟨ad, u, h1, h2, h3⟩ := run_loadBox (P := P) hs hi hb hn hd h0
  rw [Array.getD_eq_getD_getElem?] at h1
  exact ⟨u, by simp [results, hr, h1, h2], h.out hs he h3⟩
theorem ResOk.cellTmp {fn : Func} {s : DS} {x u : Tmp} {t id n : Nat} {bb : Bool} {cs : List D} {d d' e e' : D} (pe : Sg) (hr : fn.results = #[.cell x t, .tmp u]) (hx : lkF s.f x = .ref id 0) (hi : lkE s.σ id = some (.box cs)) (hb : aggOf P t = some bb) (hn : sizeOfT P t = some n) (hd : partD bb n 0 cs = some d) (hu : lkF s.f u = e) (he : Ens s.σ pe) (h : Vw pe d d') (h2 : Vw pe e e') : ResOk P fn s (.tup [d', e']) := fun w0 M0 B0 N g a w hs => by
  have h0 := hs.tm x
  rw [hx] at h0
  obtain ⟨ad, v, h1, h4, h3⟩ := run_loadBox (P := P) hs hi hb hn hd h0
  rw [Array.getD_eq_getD_getElem?] at h1
  refine ⟨.tuple #[v, a.tmps.getD u undef], by simp [results, hr, h1, h4], ?_⟩
  simp only [Rep]
  refine ⟨[_, _], rfl, ?_⟩
  simp only [RepL]
  exact ⟨_, _, rfl, h.out hs he h3, _, _, rfl, h2.out hs he (by rw [← hu]; exact hs.tm u), rfl⟩
end
end Go.Dm
/- A machine over data: one state for another. No condition. -/
set_option linter.unusedSimpArgs false
set_option linter.unusedVariables false
set_option maxHeartbeats 400000
namespace Go.Dm
open Go Go.RowKit Go.PP

section
variable {P : Program} {N : Nat}

/-- A datum for another when some boxes and rows are shut for good. -/
def Vs (σ σ' : Sg) (d d' : D) : Prop := ∀ (w0 : World) (M0 : Nat → Prop) (B0 : Bd) (N : Nat) (g : Gh) (f : Fr) (a : Act) (w : World), StG w0 M0 B0 N g ⟨f, σ⟩ a w → (∀ id b, blkOf g σ' id = some b → blkOf g σ id = some b) → ∀ v, Rep (Mx M0 g σ) w (some (g, σ)) d v → Rep (Mx M0 g σ') w (some (g, σ')) d' v
def VsL (σ σ' : Sg) : List D → List D → Prop
  | [], [] => True
  | d :: ds, e :: es => Vs σ σ' d e ∧ VsL σ σ' ds es
  | _, _ => False
variable {σ σ' : Sg}
theorem Mx.of {M0 : Nat → Prop} {g : Gh} (h : ∀ id b, blkOf g σ' id = some b → blkOf g σ id = some b) (b : Nat) (hb : Mx M0 g σ' b) : Mx M0 g σ b := by
  rcases hb with hb | ⟨id, hb⟩
  · exact .inl hb
  · exact .inr ⟨id, h id b hb⟩
theorem VsL.rep {w0 : World} {M0 : Nat → Prop} {B0 : Bd} {g : Gh} {f : Fr} {a : Act} {w : World} (hs : StG w0 M0 B0 N g ⟨f, σ⟩ a w) (hM : ∀ id b, blkOf g σ' id = some b → blkOf g σ id = some b) : ∀ {ds es : List D} {vs : List Value}, VsL σ σ' ds es → RepL (Mx M0 g σ) w (some (g, σ)) ds vs → RepL (Mx M0 g σ') w (some (g, σ')) es vs
  | [], [], vs, _, h => by simpa only [RepL] using h
  | d :: ds, e :: es, vs, hl, h => by
    simp only [RepL] at h ⊢
    obtain ⟨u, us, h1, h2, h3⟩ := h
    exact ⟨u, us, h1, hl.1 _ _ _ _ _ _ _ _ hs hM _ h2, VsL.rep hs hM hl.2 h3⟩
  | [], _ :: _, _, h, _ => h.elim
  | _ :: _, [], _, h, _ => h.elim
theorem Vs.any (d : D) : Vs σ σ' d .any := fun _ _ _ _ _ _ _ _ _ _ _ _ => by simp only [Rep]
theorem Vs.pers {d : D} (h : Dm.pers d = true) : Vs σ σ' d d := fun w0 M0 B0 N g f a w hs hM v hv => (hv.down d v h).mono (fun b _ h => Mx.of hM b h) |>.up
theorem Vs.eq {d d' : D} (h : d = d') (hp : Dm.pers d' = true) : Vs σ σ' d d' := by subst h; exact Vs.pers hp
theorem Vs.int {k : IntKind} {a b : Int} (h : a = b) : Vs σ σ' (.flat (.int k a)) (.flat (.int k b)) := h ▸ Vs.pers rfl
theorem Vs.le {d d1 d2 : D} (h : Vs σ σ' d d1) (hl : Le d1 d2) : Vs σ σ' d d2 := fun w0 M0 B0 N g f a w hs hM v hv => hl _ _ _ _ (fun b hb => hs.mlt b (Mx.of hM b hb)) (h _ _ _ _ _ _ _ _ hs hM v hv)
theorem Vs.own {id L e n e' n' : Nat} {cs cs' : List D} (h : lkE σ id = some (.row e n L cs)) (h' : lkE σ' id = some (.row e' n' L cs')) : Vs σ σ' (.own id L) (.own id L) := fun w0 M0 B0 N g f a w hs hM v hv => by
  simp only [Rep] at hv ⊢
  obtain ⟨g', σ1, hG, h1, h4⟩ := hv
  cases hG
  exact ⟨g, σ', rfl, .inr ⟨e', n', L, cs', h', Nat.le_refl _, (row_at h h1).2⟩, h4⟩
theorem Vs.dead {id L : Nat} (h' : lkE σ' id = some .dead) : Vs σ σ' (.own id L) (.own id L) := fun w0 M0 B0 N g f a w hs hM v hv => by
  simp only [Rep] at hv ⊢
  obtain ⟨g', σ1, hG, h1, h4⟩ := hv
  cases hG
  exact ⟨g, σ', rfl, .inl h', h4⟩
theorem Vs.ref {id off : Nat} {cs' : List D} (h' : lkE σ' id = some (.box cs')) : Vs σ σ' (.ref id off) (.ref id off) := fun w0 M0 B0 N g f a w hs hM v hv => by
  simp only [Rep] at hv ⊢
  obtain ⟨g', σ1, cs1, hG, h1, h2⟩ := hv
  cases hG
  exact ⟨g, σ', cs', rfl, h', h2⟩
theorem Vs.agg {cs cs' : List D} (h : VsL σ σ' cs cs') : Vs σ σ' (.agg cs) (.agg cs') := fun w0 M0 B0 N g f a w hs hM v hv => by
  simp only [Rep] at hv ⊢
  obtain ⟨vs, q1, q2⟩ := hv
  exact ⟨vs, q1, VsL.rep hs hM h q2⟩
theorem Vs.tup {cs cs' : List D} (h : VsL σ σ' cs cs') : Vs σ σ' (.tup cs) (.tup cs') := fun w0 M0 B0 N g f a w hs hM v hv => by
  simp only [Rep] at hv ⊢
  obtain ⟨vs, q1, q2⟩ := hv
  exact ⟨vs, q1, VsL.rep hs hM h q2⟩
theorem Vs.clo {fn : Fn} {cs cs' es es' : List D} (h : VsL σ σ' cs cs') (h2 : VsL σ σ' es es') : Vs σ σ' (.clo fn cs es) (.clo fn cs' es') := fun w0 M0 B0 N g f a w hs hM v hv => by
  simp only [Rep] at hv ⊢
  obtain ⟨vs, us, q1, q2, q3⟩ := hv
  exact ⟨vs, us, q1, VsL.rep hs hM h q2, VsL.rep hs hM h2 q3⟩
theorem VsL.pers : ∀ {ds : List D}, persL ds = true → VsL σ σ' ds ds
  | [], _ => trivial
  | d :: ds, h => by
    simp only [persL, Bool.and_eq_true] at h
    exact ⟨Vs.pers h.1, VsL.pers h.2⟩
theorem VsL.eq {ds es : List D} (h : ds = es) (hp : persL es = true) : VsL σ σ' ds es := by subst h; exact VsL.pers hp
/-- What is shut may be read for good. -/
theorem Vs.shut {pe : Sg} {d d' : D} (he : Ens σ pe) (h : Vw pe d d') (hd : ∀ id ∈ keys pe, lkE σ' id = none) : Vs σ σ' d d' := fun w0 M0 B0 N g f a w hs hM v hv => by
  refine (Rep.mono (h w0 M0 B0 N g ⟨f, σ⟩ a w hs he v hv) fun b _ hb => ?_).up
  rcases hb with hb | ⟨id, hb⟩
  · exact .inl hb
  · refine .inr ⟨id, fun hk => ?_, hM id b hb⟩
    have := hd id hk
    simp [blkOf, this] at hb

/-- What stays of boxes and rows. -/
def EsOk (σ σ' : Sg) : Sg → Prop
  | [] => True
  | (id, e) :: r => (match e with
      | none => True
      | some .dead => True
      | some (.box cs') => ∃ cs, lkE σ id = some (.box cs) ∧ VsL σ σ' cs cs'
      | some (.row e n L cs') => ∃ cs, lkE σ id = some (.row e n L cs) ∧ VsL σ σ' cs cs') ∧ EsOk σ σ' r
def FsOk (σ σ' : Sg) (f : Fr) : Fr → Prop
  | [] => True
  | (t, d) :: r => Vs σ σ' (lkF f t) d ∧ FsOk σ σ' f r
theorem FsOk.at {f : Fr} : ∀ {f' : Fr}, FsOk σ σ' f f' → ∀ t, Vs σ σ' (lkF f t) (lkF f' t)
  | [], _, t => Vs.any _
  | (k, d) :: r, h, t => by
    rw [lkF_cons]
    by_cases e : k = t
    · rw [if_pos e, ← e]; exact h.1
    · rw [if_neg e]; exact FsOk.at h.2 t
theorem EsOk.at : ∀ {τ : Sg}, EsOk σ σ' τ → ∀ id, (∀ cs', lkE τ id = some (.box cs') → ∃ cs, lkE σ id = some (.box cs) ∧ VsL σ σ' cs cs') ∧ (∀ e n L cs', lkE τ id = some (.row e n L cs') → ∃ cs, lkE σ id = some (.row e n L cs) ∧ VsL σ σ' cs cs')
  | [], _, id => ⟨fun cs h => by simp [lkE] at h, fun e n L cs h => by simp [lkE] at h⟩
  | (k, x) :: r, h, id => by
    rw [lkE_cons]
    by_cases e : k = id
    · rw [if_pos e]
      subst e
      have h1 := h.1
      refine ⟨fun cs hc => ?_, fun e n L cs hc => ?_⟩
      · subst hc; exact h1
      · subst hc; exact h1
    · rw [if_neg e]; exact EsOk.at h.2 id
theorem Sub.of {f f' : Fr} (h1 : EsOk σ σ' σ') (h2 : FsOk σ σ' f f') : Sub N ⟨f, σ⟩ ⟨f', σ'⟩ := by
  intro w0 M0 B0 a w ⟨g, hs⟩
  have hM : ∀ id b, blkOf g σ' id = some b → blkOf g σ id = some b := fun id b hb => by
    unfold blkOf at hb
    obtain ⟨q1, q2⟩ := h1.at id
    cases he : lkE σ' id with
    | none => rw [he] at hb; cases hb
    | some e =>
      rw [he] at hb
      cases e with
      | box cs' => obtain ⟨cs, q, _⟩ := q1 cs' he; unfold blkOf; rw [q]; exact hb
      | row e n L cs' => obtain ⟨cs, q, _⟩ := q2 e n L cs' he; unfold blkOf; rw [q]; exact hb
      | dead => cases hb
  refine ⟨g, hs.chg, hs.m0, hs.df, hs.sz, fun t => h2.at t _ _ _ _ _ _ _ _ hs hM _ (hs.tm t), fun id e he => ?_, fun id id' b q1 q2 => hs.sep id id' b (hM _ _ q1) (hM _ _ q2), fun id b q => hs.new id b (hM _ _ q), fun id => ⟨fun cs q => (by obtain ⟨c, q3, _⟩ := (h1.at id).1 cs q; exact (hs.anc id).1 c q3), fun e n len cs q => (by obtain ⟨c, q3, _⟩ := (h1.at id).2 e n len cs q; exact (hs.anc id).2 _ _ _ _ q3)⟩⟩
  obtain ⟨q1, q2⟩ := h1.at id
  cases e with
  | box cs' =>
    obtain ⟨cs, q, hv⟩ := q1 cs' he
    obtain ⟨vs, T, o1, o2⟩ := hs.ent id _ q
    exact ⟨vs, T, o1, VsL.rep hs hM hv o2⟩
  | row e n L cs' =>
    obtain ⟨cs, q, hv⟩ := q2 e n L cs' he
    obtain ⟨vs, o1, o2⟩ := hs.ent id _ q
    exact ⟨vs, o1, VsL.rep hs hM hv o2⟩
  | dead => trivial

theorem StG.setF {w0 : World} {M0 : Nat → Prop} {B0 : Bd} {g : Gh} {f : Fr} {a : Act} {w : World} (h : StG w0 M0 B0 N g ⟨f, σ⟩ a w) (t : Nat) (d : D) (hd : Rep (Mx M0 g σ) w (some (g, σ)) d (a.tmps.getD t undef)) : StG w0 M0 B0 N g ⟨(t, d) :: f, σ⟩ a w :=
  ⟨h.chg, h.m0, h.df, h.sz, fun k => by
    rw [lkF_cons]
    by_cases e : t = k
    · subst e; rw [if_pos rfl]; exact hd
    · rw [if_neg e]; exact h.tm k, h.ent, h.sep, h.new, h.anc⟩
/-- A nil slice in a slot becomes a row of the call's own. -/
theorem Sub.adopt {f : Fr} (t id : Nat) (e n : Nat) (ht : lkF f t = .flat (.slice none 0 0)) (hi : lkE σ id = none) (hid : newId N id = true := by first | exact rfl | decide +kernel) : Sub N ⟨f, σ⟩ ⟨(t, .own id 0) :: f, (id, some (.row e n 0 [])) :: σ⟩ := by
  intro w0 M0 B0 a w ⟨g, hs⟩
  have hn : ∀ k c, lkE σ k = some c → ¬ id = k := fun k c hk e => by subst e; rw [hi] at hk; cases hk
  have hb0 : blkOf g σ id = none := by unfold blkOf; rw [hi]
  have h1 := hs.set1 (g' := ⟨g.blk, fun k => if k = id then .slice none 0 0 else g.row k⟩) (w' := w) id (.row e n 0 []) (fun _ => hid) (Mut.refl _ w) (fun _ _ => rfl) (fun k hk => by simp [hk])
    ⟨fun k cs hk => ⟨⟨cs, by rw [lkE_cons, if_neg (hn k _ hk)]; exact hk⟩, rfl⟩, fun k e n len cs hk => .inr ⟨e, n, len, cs, by rw [lkE_cons, if_neg (hn k _ hk)]; exact hk, Nat.le_refl _, fun _ => by simp [show ¬ k = id from fun q => hn k _ hk q.symm]⟩, fun k hk => by simp only at hk ⊢; rw [lkE_cons, if_neg (hn k _ hk)]; exact hk⟩
    (fun b hb => by simp [blkOf, lkE_cons, Value.ownBlock] at hb) (fun M hM => ⟨[], by simp only [if_pos]; exact World.ownsRow_nil _ _ _ _, by simp only [RepL]⟩) (dst := none) rfl (d := .any) (v := undef) (fun M hM => by simp only [Rep])
  have hv := hs.tm t
  rw [ht] at hv
  simp only [Rep] at hv
  refine ⟨_, StG.setF (a := a) (f := f) h1 t (.own id 0) ?_⟩
  simp only [Rep]
  exact ⟨_, _, rfl, .inr ⟨e, n, 0, [], by rw [lkE_cons, if_pos rfl], Nat.le_refl _, fun _ => (by simpa using hv)⟩, none, 0, hv⟩
theorem DW.adopt {Q : Exit → DS → Prop} {c : Code} {f : Fr} (t id : Nat) (e n : Nat) (ht : lkF f t = .flat (.slice none 0 0)) (hi : lkE σ id = none) (h : DW P N c ⟨(t, .own id 0) :: f, (id, some (.row e n 0 [])) :: σ⟩ Q) (hid : newId N id = true := by first | exact rfl | decide +kernel) : DW P N c ⟨f, σ⟩ Q := DW.sub (Sub.adopt t id e n ht hi hid) h

/-! the steps, each with its rule -/
variable {ops : Array Oper}
theorem DSeq.tri {i : Nat} {o : Oper} {l : List Oper} {s s' : DS} {pf : List (Operand × D)} {pe : List (Nat × Option Ent)} {d : D} {we : Sg} {qs : List Sd} (ht : Tri P N o pf pe d we) (h1 : Evs s.f pf) (h2 : Ens s.σ pe)
    (hk : DSeq P N ops (i + 1) l ⟨updF s.f o.dst d, we ++ s.σ⟩ s' qs) (hg : o.guard = none) (hd : dstOk N o.dst = true) : DSeq P N ops i (o :: l) s s' (⟨o.dst, pf, pe, d, we⟩ :: qs) :=
  .cons (fun ho => Stp.tri ho hg hd ht) h1 h2 hk
theorem DSeq.on {i j : Nat} {t : Tmp} {b : Bool} {o : Oper} {l : List Oper} {s s' : DS} {pf : List (Operand × D)} {pe : List (Nat × Option Ent)} {d : D} {we : Sg} {qs : List Sd} (hg : o.guard = some (j, b)) (hj : (ops[j]?).bind (·.dst) = some t) (hb : lkF s.f t = .flat (.bool b)) (ht : Tri P N o pf pe d we) (h1 : Evs s.f pf) (h2 : Ens s.σ pe)
    (hk : DSeq P N ops (i + 1) l ⟨updF s.f o.dst d, we ++ s.σ⟩ s' qs) (hd : dstOk N o.dst = true) : DSeq P N ops i (o :: l) s s' (⟨o.dst, (.tmp t, .flat (.bool b)) :: pf, pe, d, we⟩ :: qs) :=
  .cons (fun ho => Stp.on ho hg hj hd ht) ⟨hb, h1⟩ h2 hk
theorem DSeq.off {i j : Nat} {t : Tmp} {b : Bool} {v : Value} {o : Oper} {l : List Oper} {s s' : DS} {qs : List Sd} (hg : o.guard = some (j, b)) (hj : (ops[j]?).bind (·.dst) = some t) (hv : lkF s.f t = .flat v) (hne : (boolOf v != some b) = true) (htn : t < N)
    (hk : DSeq P N ops (i + 1) l ⟨updF s.f o.dst (.flat undef), s.σ⟩ s' qs) (hd : dstOk N o.dst = true) : DSeq P N ops i (o :: l) s s' (⟨o.dst, [(.tmp t, .flat v)], [], .flat undef, []⟩ :: qs) :=
  .cons (fun ho => Stp.off ho hg hj htn hd hne) ⟨hv, trivial⟩ trivial hk

/-! the same, the state handed on -/
structure DC (P : Program) (N : Nat) (ops : Array Oper) (i : Nat) (l : List Oper) (s : DS) (acc : List Sd) (K : DS → List Sd → Prop) : Prop where
  intro ::
  go : ∃ s' qs, DSeq P N ops i l s s' qs ∧ K s' (acc.reverse ++ qs)
theorem DC.nil {i : Nat} {s : DS} {acc : List Sd} {K : DS → List Sd → Prop} (h : K s acc.reverse) : DC P N ops i [] s acc K := ⟨⟨s, [], .nil, by simpa using h⟩⟩
/-- An operation is not guarded, or its guard lets it through. -/
inductive GuardOk (ops : Array Oper) (o : Oper) (f : Fr) : List (Operand × D) → Prop
  | none (h : o.guard = .none) : GuardOk ops o f []
  | on {j : Nat} {b p : Bool} {t : Tmp} (h : o.guard = some (j, b)) (hj : (ops[j]?).bind (·.dst) = some t) (hv : lkF f t = .flat (.bool p)) (hp : p = b) : GuardOk ops o f [(.tmp t, .flat (.bool b))]
theorem DC.tri {i : Nat} {o : Oper} {l : List Oper} {s : DS} {acc : List Sd} {K : DS → List Sd → Prop} {pf gp : List (Operand × D)} {pe : List (Nat × Option Ent)} {d : D} {we : Sg} (ht : Tri P N o pf pe d we) (h1 : Evs s.f pf) (h2 : Ens s.σ pe)
    (hk : DC P N ops (i + 1) l ⟨updF s.f o.dst d, we ++ s.σ⟩ (⟨o.dst, gp ++ pf, pe, d, we⟩ :: acc) K) (hg : GuardOk ops o s.f gp) (hd : dstOk N o.dst = true) : DC P N ops i (o :: l) s acc K := by
  obtain ⟨s', qs, q1, q2⟩ := hk.go
  refine ⟨?_⟩
  cases hg with
  | none h => exact ⟨s', _, DSeq.tri ht h1 h2 q1 h hd, by simpa using q2⟩
  | on h hj hv hp => subst hp; exact ⟨s', _, DSeq.on h hj hv ht h1 h2 q1 hd, by simpa using q2⟩
theorem DC.off {i j : Nat} {t : Tmp} {b : Bool} {v : Value} {o : Oper} {l : List Oper} {s : DS} {acc : List Sd} {K : DS → List Sd → Prop} (hg : o.guard = some (j, b)) (hj : (ops[j]?).bind (·.dst) = some t) (hv : lkF s.f t = .flat v) (hne : (boolOf v != some b) = true) (htn : t < N)
    (hk : DC P N ops (i + 1) l ⟨updF s.f o.dst (.flat undef), s.σ⟩ (⟨o.dst, [(.tmp t, .flat v)], [], .flat undef, []⟩ :: acc) K) (hd : dstOk N o.dst = true) : DC P N ops i (o :: l) s acc K := by
  obtain ⟨s', qs, q1, q2⟩ := hk.go
  refine ⟨?_⟩
  exact ⟨s', _, DSeq.off hg hj hv hne htn q1 hd, by simpa using q2⟩
theorem DC.offB {i j : Nat} {t : Tmp} {b p : Bool} {o : Oper} {l : List Oper} {s : DS} {acc : List Sd} {K : DS → List Sd → Prop} (hg : o.guard = some (j, b)) (hj : (ops[j]?).bind (·.dst) = some t) (hv : lkF s.f t = .flat (.bool p)) (hp : p = !b) (htn : t < N)
    (hk : DC P N ops (i + 1) l ⟨updF s.f o.dst (.flat undef), s.σ⟩ (⟨o.dst, [(.tmp t, .flat (.bool p))], [], .flat undef, []⟩ :: acc) K) (hd : dstOk N o.dst = true) : DC P N ops i (o :: l) s acc K :=
  DC.off hg hj hv (by subst hp; cases b <;> rfl) htn hk hd
theorem DW.regionC {Q : Exit → DS → Prop} {s : DS} {id : Nat} {l : List Oper} (h : DC P N l.toArray 0 l s [] (fun s' _ => Q .normal s')) : DW P N (.region id l.toArray false) s Q := by
  obtain ⟨s', qs, q1, q2⟩ := h.go
  exact DW.region q1 q2
theorem DW.drawnC {Q : Exit → DS → Prop} {s : DS} {id : Nat} {l : List Oper} (hm : P.follows .mixedOrders = true) (hlt : ((List.range l.length).all fun i => ((l[i]?).map fun o => o.after.all fun e => !Region.binds .any e || decide (e.on < i)).getD true) = true)
    (h : DC P N l.toArray 0 l s [] (fun s' qs => rOk (masks .any l []) (qs.map Sd.fp) = true ∧ Q .normal s')) : DW P N (.region id l.toArray true) s Q := by
  obtain ⟨s', qs, q1, q2, q3⟩ := h.go
  exact DW.drawn q1 hm q2 hlt q3
end
end Go.Dm
/- A machine over data: the rules in the form in which walks use them; lists. No condition. -/
set_option linter.unusedSimpArgs false
set_option linter.unusedVariables false
set_option maxHeartbeats 400000
namespace Go.Dm
open Go Go.RowKit Go.PP

section
variable {P : Program} {N : Nat} {dst : Option Tmp} {ty : TypeId} {pos : String} {af : Array Edge} {gd : Option (Nat × Bool)}

/-- The field i of a struct type: where it lies, of how many cells. -/
def FieldAt (P : Program) (t i off n : Nat) : Prop := ∃ fs f, P.underlying t = some (.struct fs) ∧ fs[i]? = some f ∧ f.offset = off ∧ sizeOfT P f.type = some n ∧ aggOf P f.type = some (decide (1 < n))
theorem T.fieldRef' {id off n k : Nat} (t : TypeId) (x : Operand) (i : Nat) (h : FieldAt P t i k n) (h0 : n ≠ 0) :
    Tri P N ⟨dst, .fieldAddr t x i, ty, pos, af, gd⟩ [(x, .ref id off)] [] (.ref id (off + k)) [] := by
  obtain ⟨fs, f, h1, h2, rfl, h3, _⟩ := h
  exact T.fieldRef t x i h1 h2 h3 h0
theorem T.fieldPtr' {off n k : Nat} {cs : List D} (t : TypeId) (x : Operand) (i : Nat) (h : FieldAt P t i k n) (h0 : n ≠ 0) :
    Tri P N ⟨dst, .fieldAddr t x i, ty, pos, af, gd⟩ [(x, .ptr cs off)] [] (.ptr cs (off + k)) [] := by
  obtain ⟨fs, f, h1, h2, rfl, h3, _⟩ := h
  exact T.fieldPtr t x i h1 h2 h3 h0
theorem T.field1 {k : Nat} {cs : List D} {d : D} (t : TypeId) (x : Operand) (i : Nat) (h : FieldAt P t i k 1) (hd : cs[k]? = some d) :
    Tri P N ⟨dst, .field t x i, ty, pos, af, gd⟩ [(x, .agg cs)] [] d [] := by
  obtain ⟨fs, f, h1, h2, rfl, h3, h4⟩ := h
  exact T.field t x i h1 h2 h4 h3 (by simpa [partD] using hd)

theorem T.pickT {d : D} (c x y : Operand) : Tri P N ⟨dst, .pick c x y, ty, pos, af, gd⟩ [(c, .flat (.bool true)), (x, d)] [] d [] := Tri.val fun M w G ρ h =>
  ⟨ρ x, by simp [execOp, h.one, asBool], h.2.1⟩
theorem T.pickF {d : D} (c x y : Operand) : Tri P N ⟨dst, .pick c x y, ty, pos, af, gd⟩ [(c, .flat (.bool false)), (y, d)] [] d [] := Tri.val fun M w G ρ h =>
  ⟨ρ y, by simp [execOp, h.one, asBool], h.2.1⟩
theorem T.pickT' {d : D} {p : Bool} (c x y : Operand) (hp : p = true) : Tri P N ⟨dst, .pick c x y, ty, pos, af, gd⟩ [(c, .flat (.bool p)), (x, d)] [] d [] := by subst hp; exact T.pickT c x y
theorem T.pickF' {d : D} {p : Bool} (c x y : Operand) (hp : p = false) : Tri P N ⟨dst, .pick c x y, ty, pos, af, gd⟩ [(c, .flat (.bool p)), (y, d)] [] d [] := by subst hp; exact T.pickF c x y
theorem T.minI {k : IntKind} {a b c : Int} (ts : Array TypeId) (x y : Operand) (h : (if b < a then b else a) = c) : Tri P N ⟨dst, .call { callee := .builtin .min, args := #[x, y], argTypes := ts }, ty, pos, af, gd⟩ [(x, .flat (.int k a)), (y, .flat (.int k b))] [] (.flat (.int k c)) [] := Tri.val fun M w G ρ hv => by
  refine ⟨.int k c, ?_, by simp only [Rep]⟩
  rw [← h]
  simp [execOp, resolve, invoke, builtin, Builtin.min_, Builtin.min2, hv.one, hv.2.one]
/-! lists of data -/
def intsD (l : List Int) : D := .sl false 1 l.length (l.map fun x => .flat (.int .i64 x))
def boolsD (l : List Bool) : D := .sl false 1 l.length (l.map fun x => .flat (.bool x))
def rowsD (l : List (List Int)) : D := .sl false 1 l.length (l.map intsD)
def intD (x : Int) : D := .flat (.int .i64 x)
def boolD (x : Bool) : D := .flat (.bool x)
theorem persL_map {α : Type} {f : α → D} (hf : ∀ x, pers (f x) = true) : ∀ l : List α, persL (l.map f) = true
  | [] => rfl
  | x :: l => by simp [persL, hf, persL_map hf l]
theorem oneL_map {α : Type} {f : α → D} (hf : ∀ x, oneD (f x) = true) : ∀ l : List α, oneL (l.map f) = true
  | [] => rfl
  | x :: l => by simp [oneL, hf, oneL_map hf l]
theorem part_map {α : Type} {f : α → D} {l : List α} {j : Nat} {y : α} (h : l[j]? = some y) : partD false 1 ((j : Int).toNat * 1) (l.map f) = some (f y) := by simp [partD, h]
theorem part_map0 {α : Type} {f : α → D} {l : List α} {j : Nat} {y : α} (h : l[j]? = some y) : partD false 1 j (l.map f) = some (f y) := by simp [partD, h]
theorem part_map1 {α : Type} {f : α → D} {l : List α} {j : Nat} {y : α} (h : l[j]? = some y) : partD false 1 (j * 1) (l.map f) = some (f y) := by simp [partD, h]

/-! ints in range -/
theorem w64 {a : Int} (h : -9223372036854775808 ≤ a) (h2 : a ≤ 9223372036854775807) : IntKind.i64.wrap a = a := IntWalk.i64_in a ⟨h, h2⟩
theorem quo64 {a b : Int} (ha : 0 ≤ a) (hb : 0 < b) (h : a ≤ 9223372036854775807) : IntKind.i64.wrap (a.tdiv b) = a / b := by
  rw [Int.tdiv_eq_ediv_of_nonneg ha]
  have h1 : 0 ≤ a / b := Int.ediv_nonneg ha (by omega)
  have h2 : a / b ≤ a := Int.ediv_le_self b ha
  exact w64 (by omega) (by omega)
theorem rem64 {a b : Int} (ha : 0 ≤ a) : a.tmod b = a % b := Int.tmod_eq_emod_of_nonneg ha
end

section
variable {P : Program} {N : Nat} {R : DS → Prop} {Q : Exit → DS → Prop} {s s' : DS} {ops : Array Oper}
theorem DC.nilN {i : Nat} {acc : List Sd} {K : DS → List Sd → Prop} (hs : s = s') (h : K s' acc.reverse) : DC P N ops i [] s acc K := by subst hs; exact DC.nil h
theorem DW.condT' {p : Bool} {c : Operand} {x y : Code} (hc : evalD s.f c = .flat (.bool p)) (hp : p = true) (h : DW P N x s Q) : DW P N (.cond c x y) s Q := by subst hp; exact DW.condT hc h
theorem DW.condF' {p : Bool} {c : Operand} {x y : Code} (hc : evalD s.f c = .flat (.bool p)) (hp : p = false) (h : DW P N y s Q) : DW P N (.cond c x y) s Q := by subst hp; exact DW.condF hc h
theorem Thn.n (h : R s) : Thn R Q .normal s := h
theorem Thn.e {id : Nat} (h : Q (.exit id) s) : Thn R Q (.exit id) s := h
theorem Thn.r (h : Q .ret s) : Thn R Q .ret s := h
theorem Blk.n {id : Nat} (h : Q .normal s) : Blk id Q .normal s := h
theorem Blk.r {id : Nat} (h : Q .ret s) : Blk id Q .ret s := h
theorem Blk.here {id : Nat} (h : Q .normal s) : Blk id Q (.exit id) s := by simp only [Blk, if_true]; exact h
theorem Blk.pass {id id' : Nat} (hn : Nat.beq id' id = false) (h : Q (.exit id') s) : Blk id Q (.exit id') s := by
  have hne : ¬ id' = id := fun e => by subst e; simp at hn
  simp only [Blk, hne, if_false]; exact h
end

section
variable {P : Program} {N : Nat} {f f' : Fr} {σ σ' : Sg}
/-- A loop that changes no box and no row: the slots alone. -/
theorem Sub.frame (h2 : FsOk [] [] f f') : Sub N ⟨f, []⟩ ⟨f', []⟩ := Sub.of trivial h2
theorem Vs.nil {b : Bool} {n : Nat} : Vs σ σ' (.flat (.slice none 0 0)) (.sl b n 0 []) := Vs.le (Vs.pers rfl) (Le.nil b n)
end

section
variable {P : Program} {N : Nat} {f : Fr} {σ : Sg}
theorem RepL.set {M : Nat → Prop} {w : World} {G : Cx} : ∀ {ds : List D} {vs : List Value} {k : Nat} {d : D}, RepL M w G ds vs → (∀ u, vs[k]? = some u → Rep M w G d u) → RepL M w G (ds.set k d) vs
  | [], vs, k, d, h, _ => by simpa using h
  | e :: ds, vs, 0, d, h, hd => by
    simp only [RepL] at h
    obtain ⟨u, us, rfl, h2, h3⟩ := h
    simp only [List.set_cons_zero, RepL]
    exact ⟨u, us, rfl, hd u (by simp), h3⟩
  | e :: ds, vs, k + 1, d, h, hd => by
    simp only [RepL] at h
    obtain ⟨u, us, rfl, h2, h3⟩ := h
    simp only [List.set_cons_succ, RepL]
    exact ⟨u, us, rfl, h2, RepL.set h3 (fun u' hu => hd u' (by simpa using hu))⟩
/-- A nil slice in a box becomes a row of the call's own. -/
theorem Sub.adoptBox (id k rid : Nat) (e n : Nat) {cs : List D} (hb : lkE σ id = some (.box cs)) (hk : cs[k]? = some (.flat (.slice none 0 0))) (hi : lkE σ rid = none) (hid : newId N rid = true := by first | exact rfl | decide +kernel) : Sub N ⟨f, σ⟩ ⟨f, (id, some (.box (cs.set k (.own rid 0)))) :: (rid, some (.row e n 0 [])) :: σ⟩ := by
  intro w0 M0 B0 a w ⟨g, hs⟩
  have hn : ∀ k c, lkE σ k = some c → ¬ rid = k := fun k c hk e => by subst e; rw [hi] at hk; cases hk
  have hb0 : blkOf g σ rid = none := by unfold blkOf; rw [hi]
  have hG : Grow (g, σ) (⟨g.blk, fun k => if k = rid then .slice none 0 0 else g.row k⟩, (rid, some (.row e n 0 [])) :: σ) :=
    ⟨fun k cs hk => ⟨⟨cs, by rw [lkE_cons, if_neg (hn k _ hk)]; exact hk⟩, rfl⟩, fun k e n len cs hk => .inr ⟨e, n, len, cs, by rw [lkE_cons, if_neg (hn k _ hk)]; exact hk, Nat.le_refl _, fun _ => by simp [show ¬ k = rid from fun q => hn k _ hk q.symm]⟩, fun k hk => by simp only at hk ⊢; rw [lkE_cons, if_neg (hn k _ hk)]; exact hk⟩
  have h1 : StG w0 M0 B0 N ⟨g.blk, fun k => if k = rid then .slice none 0 0 else g.row k⟩ ⟨f, (rid, some (.row e n 0 [])) :: σ⟩ a w := hs.set1 (g' := ⟨g.blk, fun k => if k = rid then .slice none 0 0 else g.row k⟩) (w' := w) rid (.row e n 0 []) (fun _ => hid) (Mut.refl _ w) (fun _ _ => rfl) (fun k hk => by simp [hk]) hG
    (fun b hb => by simp [blkOf, lkE_cons, Value.ownBlock] at hb) (fun M hM => ⟨[], by simp only [if_pos]; exact World.ownsRow_nil _ _ _ _, by simp only [RepL]⟩) (dst := none) rfl (d := .any) (v := undef) (fun M hM => by simp only [Rep])
  generalize hg1 : (⟨g.blk, fun k => if k = rid then .slice none 0 0 else g.row k⟩ : Gh) = g1 at h1
  have hrow : g1.row rid = .slice none 0 0 := by rw [← hg1]; simp
  have hne : ¬ rid = id := hn id _ hb
  have hb1 : lkE ((rid, some (.row e n 0 [])) :: σ) id = some (.box cs) := by rw [lkE_cons, if_neg hne]; exact hb
  have hbk : ∀ x, blkOf g1 ((id, some (.box (cs.set k (.own rid 0)))) :: (rid, some (.row e n 0 [])) :: σ) x = blkOf g1 ((rid, some (.row e n 0 [])) :: σ) x := fun x => by
    rw [blkOf_cons]
    by_cases e1 : id = x
    · subst e1; rw [if_pos rfl]; unfold blkOf; rw [hb1]
    · rw [if_neg e1]
  have hG2 : Grow (g1, (rid, some (.row e n 0 [])) :: σ) (g1, (id, some (.box (cs.set k (.own rid 0)))) :: (rid, some (.row e n 0 [])) :: σ) :=
    ⟨fun x c hx => by
      by_cases e1 : id = x
      · subst e1; exact ⟨⟨_, by rw [lkE_cons, if_pos rfl]⟩, rfl⟩
      · exact ⟨⟨c, by rw [lkE_cons, if_neg e1]; exact hx⟩, rfl⟩, fun x e1 n1 l1 c1 hx => by
      have : ¬ id = x := fun q => by subst q; simp only at hx; rw [hb1] at hx; cases hx
      exact .inr ⟨e1, n1, l1, c1, by rw [lkE_cons, if_neg this]; exact hx, Nat.le_refl _, fun _ => rfl⟩, fun x hx => by
      have : ¬ id = x := fun q => by subst q; simp only at hx; rw [hb1] at hx; cases hx
      simp only at hx ⊢; rw [lkE_cons, if_neg this]; exact hx⟩
  have hMx : ∀ b, Mx M0 g1 ((id, some (.box (cs.set k (.own rid 0)))) :: (rid, some (.row e n 0 [])) :: σ) b → Mx M0 g1 ((rid, some (.row e n 0 [])) :: σ) b := by
    rintro b (h | ⟨x, h⟩)
    · exact .inl h
    · exact .inr ⟨x, by rw [← hbk]; exact h⟩
  have st : ∀ d v, Rep (Mx M0 g1 ((rid, some (.row e n 0 [])) :: σ)) w (some (g1, (rid, some (.row e n 0 [])) :: σ)) d v → Rep (Mx M0 g1 ((id, some (.box (cs.set k (.own rid 0)))) :: (rid, some (.row e n 0 [])) :: σ)) w (some (g1, (id, some (.box (cs.set k (.own rid 0)))) :: (rid, some (.row e n 0 [])) :: σ)) d v :=
    fun d v h => h.step (S := fun _ => False) (G := some _) (G' := some _) hG2 (Mut.refl _ w) (fun _ _ e => e.elim) (fun b _ h => hMx b h)
  have stL : ∀ ds vs, RepL (Mx M0 g1 ((rid, some (.row e n 0 [])) :: σ)) w (some (g1, (rid, some (.row e n 0 [])) :: σ)) ds vs → RepL (Mx M0 g1 ((id, some (.box (cs.set k (.own rid 0)))) :: (rid, some (.row e n 0 [])) :: σ)) w (some (g1, (id, some (.box (cs.set k (.own rid 0)))) :: (rid, some (.row e n 0 [])) :: σ)) ds vs :=
    fun ds vs h => RepL.step (S := fun _ => False) (G := some _) (G' := some _) hG2 (Mut.refl _ w) (fun _ _ e => e.elim) (fun b _ h => hMx b h) ds vs h
  refine ⟨g1, h1.chg, h1.m0, h1.df, h1.sz, fun t => st _ _ (h1.tm t), fun x ex hx => ?_, fun x x' b q1 q2 => h1.sep x x' b (by rw [← hbk]; exact q1) (by rw [← hbk]; exact q2), fun x b q => h1.new x b (by rw [← hbk]; exact q), h1.anc.grow hG2 (fun x q1 q2 => (by
    by_cases e1 : id = x
    · subst e1; rw [hb1] at q1; cases q1
    · rw [lkE_cons, if_neg e1] at q2; exact absurd q1 q2))⟩
  simp only [lkE_cons] at hx
  by_cases e1 : id = x
  · rw [if_pos e1] at hx
    subst e1
    cases hx
    obtain ⟨vs, T, o1, o2⟩ := h1.ent id _ hb1
    refine ⟨vs, T, o1, RepL.set (stL _ _ o2) fun u hu => ?_⟩
    obtain ⟨u', hu', hr⟩ := o2.get k hk
    rw [hu] at hu'
    cases hu'
    simp only [Rep] at hr ⊢
    subst hr
    exact ⟨g1, _, rfl, .inr ⟨e, n, 0, [], by rw [lkE_cons, if_neg (fun q => hne q.symm), lkE_cons, if_pos rfl], Nat.le_refl _, fun _ => hrow.symm⟩, none, 0, rfl⟩
  · rw [if_neg e1, ← lkE_cons] at hx
    have := h1.ent x ex hx
    cases ex with
    | box c => obtain ⟨vs, T, o1, o2⟩ := this; exact ⟨vs, T, o1, stL _ _ o2⟩
    | row e2 n2 l2 c => obtain ⟨vs, o1, o2⟩ := this; exact ⟨vs, o1, stL _ _ o2⟩
    | dead => trivial
theorem DW.adoptBox {Q : Exit → DS → Prop} {c : Code} (id k rid e n : Nat) {cs : List D} (hb : lkE σ id = some (.box cs)) (hk : cs[k]? = some (.flat (.slice none 0 0))) (hi : lkE σ rid = none) (h : DW P N c ⟨f, (id, some (.box (cs.set k (.own rid 0)))) :: (rid, some (.row e n 0 [])) :: σ⟩ Q) (hid : newId N rid = true := by first | exact rfl | decide +kernel) : DW P N c ⟨f, σ⟩ Q := DW.sub (Sub.adoptBox id k rid e n hb hk hi hid) h
end

theorem persL_append : ∀ {l r : List D}, persL l = true → persL r = true → persL (l ++ r) = true
  | [], r, _, h => h
  | d :: ds, r, h1, h2 => by
    simp only [persL, Bool.and_eq_true] at h1
    simp only [List.cons_append, persL, Bool.and_eq_true]
    exact ⟨h1.1, persL_append h1.2 h2⟩
theorem persL_rep {d : D} (h : pers d = true) : ∀ {n : Nat}, persL (List.replicate n d) = true
  | 0 => rfl
  | n + 1 => by simp only [List.replicate_succ, persL, h, persL_rep h, Bool.and_self]
theorem VwL.nil {pe : Sg} : VwL pe [] [] := trivial
theorem VwL.cons {pe : Sg} {d e : D} {ds es : List D} (h : Vw pe d e) (t : VwL pe ds es) : VwL pe (d :: ds) (e :: es) := ⟨h, t⟩
theorem Vw.p {pe : Sg} {d e : D} (hp : Dm.pers d = true) (hl : Le d e) : Vw pe d e := Vw.le (Vw.pers hp) hl
theorem LeL.nil : LeL [] [] := trivial
theorem LeL.cons {d e : D} {ds es : List D} (h : Le d e) (t : LeL ds es) : LeL (d :: ds) (e :: es) := ⟨h, t⟩
theorem Vs.refl {σ : Sg} (d : D) : Vs σ σ d d := fun _ _ _ _ _ _ _ _ _ _ _ hv => hv
theorem VsL.refl {σ : Sg} : ∀ ds : List D, VsL σ σ ds ds
  | [] => trivial
  | d :: ds => ⟨Vs.refl d, VsL.refl ds⟩
/-- The slots alone. -/
theorem Sub.slots {N : Nat} {f f' : Fr} {σ : Sg} (h : FsOk σ σ f f') : Sub N ⟨f, σ⟩ ⟨f', σ⟩ := fun w0 M0 B0 a w ⟨g, hs⟩ =>
  ⟨g, hs.chg, hs.m0, hs.df, hs.sz, fun t => h.at t _ _ _ _ _ _ _ _ hs (fun _ _ h => h) _ (hs.tm t), hs.ent, hs.sep, hs.new, hs.anc⟩
theorem LeL.rfl' {ds : List D} : LeL ds ds := LeL.refl ds
theorem T.buildSl0 {P : Program} {N : Nat} {dst : Option Tmp} {ty : TypeId} {pos : String} {af : Array Edge} {gd : Option (Nat × Bool)} {n e : Nat} {z : Value} (t : TypeId) (ht : P.underlying t = some (.slice e)) (hz : zeroT P e = some z) (hn : sizeOfT P e = some n) :
    Tri P N ⟨dst, .buildSlice t 0 #[], ty, pos, af, gd⟩ [] [] (.sl true n 0 []) [] :=
  T.buildSl t [] ht hz hn (by omega) (by omega) (fun base hb => by simp at hb; subst hb; rfl) rfl (by simp)

/-! from what stands in memory to lists -/
theorem ints_of_rep {M : Nat → Prop} {w : World} {l : List Int} {v : Value} (h : Rep M w none (intsD l) v) : Ints M w v l := by
  unfold intsD at h
  simp only [Rep] at h
  obtain ⟨a, cap, rfl, h2, _, h4, h5, h6⟩ := h
  refine ⟨a, cap, by simp, by simpa using h5, fun i hi => ?_⟩
  have hi' : i < l.length := by simpa using hi
  rcases h6 with h6 | ⟨b, off, rfl, q1, q2⟩
  · omega
  · obtain ⟨u, hu, hr⟩ := q2.get i (d := .flat (.int .i64 l[i])) (by simp [hi'])
    simp only [Rep] at hr
    subst hr
    exact ⟨b, off, _, rfl, q1, by simp [hi'], hu⟩
theorem bools_of_rep {M : Nat → Prop} {w : World} {l : List Bool} {v : Value} (h : Rep M w none (boolsD l) v) : SliceIn M w v (l.map Value.bool) := by
  unfold boolsD at h
  simp only [Rep] at h
  obtain ⟨a, cap, rfl, h2, _, h4, h5, h6⟩ := h
  refine ⟨a, cap, by simp, by simpa using h5, fun i hi => ?_⟩
  have hi' : i < l.length := by simpa using hi
  rcases h6 with h6 | ⟨b, off, rfl, q1, q2⟩
  · omega
  · obtain ⟨u, hu, hr⟩ := q2.get i (d := .flat (.bool l[i])) (by simp [hi'])
    simp only [Rep] at hr
    subst hr
    exact ⟨b, off, _, rfl, q1, by simp [hi'], hu⟩
theorem rows_of_rep {M : Nat → Prop} {w : World} {l : List (List Int)} {v : Value} (h : Rep M w none (rowsD l) v) : IntsL M w v l := by
  unfold rowsD at h
  simp only [Rep] at h
  obtain ⟨a, cap, rfl, h2, _, h4, h5, h6⟩ := h
  rcases h6 with h6 | ⟨b, off, rfl, q1, q2⟩
  · have hl : l.length = 0 := by omega
    obtain rfl := List.eq_nil_of_length_eq_zero hl
    exact ⟨[], ⟨a, cap, by simp, by simp, fun i hi => by simp at hi⟩, rfl, fun i v' xs h => by simp at h⟩
  · obtain ⟨vs, r1, r2⟩ := RepC.vals q2
    have hlen := r1.length
    simp only [List.length_map] at hlen
    refine ⟨vs, ⟨some ⟨b, off, none⟩, cap, by rw [hlen], by omega, fun i hi => ⟨b, off, vs[i], rfl, q1, by simp, r2 i _ (by simp)⟩⟩, hlen.symm, fun i v' xs e1 e2 => ?_⟩
    obtain ⟨u, hu, hr⟩ := r1.get i (d := intsD xs) (by simp [e2])
    rw [e1] at hu
    cases hu
    exact ints_of_rep hr
theorem part_all {cs : List D} : partD true cs.length 0 cs = some (.agg cs) := by simp [partD]
theorem ResOk.cellA {P : Program} {fn : Func} {s : DS} {x : Tmp} {t id : Nat} {cs cs' : List D} {d' : D} (pe : Sg) (hr : fn.results = #[.cell x t]) (hx : lkF s.f x = .ref id 0) (hi : lkE s.σ id = some (.box cs)) (hb : aggOf P t = some true) (hn : sizeOfT P t = some cs.length) (he : Ens s.σ pe) (h : VwL pe cs cs') (hd : Le (.agg cs') d') : ResOk P fn s d' :=
  ResOk.cell pe hr hx hi hb hn part_all he (Vw.le (Vw.agg h) hd)
theorem ResOk.cellTmpA {P : Program} {fn : Func} {s : DS} {x u : Tmp} {t id : Nat} {cs cs' : List D} {d' e e' : D} (pe : Sg) (hr : fn.results = #[.cell x t, .tmp u]) (hx : lkF s.f x = .ref id 0) (hi : lkE s.σ id = some (.box cs)) (hb : aggOf P t = some true) (hn : sizeOfT P t = some cs.length) (hu : lkF s.f u = e) (he : Ens s.σ pe) (h : VwL pe cs cs') (hd : Le (.agg cs') d') (h2 : Vw pe e e') : ResOk P fn s (.tup [d', e']) :=
  ResOk.cellTmp pe hr hx hi hb hn part_all hu he (Vw.le (Vw.agg h) hd) h2
end Go.Dm
/- A machine over data: nil slices told from empty ones. No condition. -/
set_option linter.unusedSimpArgs false
set_option linter.unusedVariables false
set_option maxHeartbeats 400000
namespace Go.Dm
open Go Go.RowKit Go.PP

section
variable {P : Program} {N : Nat} {dst : Option Tmp} {ty : TypeId} {pos : String} {af : Array Edge} {gd : Option (Nat × Bool)}
theorem run_eqNil {t e : TypeId} {x : Operand} {a : Option Addr} {l c : Nat} (w : World) (ρ : Operand → Value) (hx : ρ x = .slice a l c) (hn : ρ (.const (.slice none 0 0)) = .slice none 0 0) (ht : P.underlying t = some (.slice e)) (ty' : TypeId) :
    (execOp ρ ⟨dst, .binOp .eql t x (.const (.slice none 0 0)) ty', ty, pos, af, gd⟩).run P w = .ok (.value (.bool a.isNone)) w := by
  simp [execOp, hx, hn, eqGuard, binOp, run_equal_slice_nil w t e a l c ht]
theorem run_neqNil {t e : TypeId} {x : Operand} {a : Option Addr} {l c : Nat} (w : World) (ρ : Operand → Value) (hx : ρ x = .slice a l c) (hn : ρ (.const (.slice none 0 0)) = .slice none 0 0) (ht : P.underlying t = some (.slice e)) (ty' : TypeId) :
    (execOp ρ ⟨dst, .binOp .neq t x (.const (.slice none 0 0)) ty', ty, pos, af, gd⟩).run P w = .ok (.value (.bool (!a.isNone))) w := by
  simp [execOp, hx, hn, eqGuard, binOp, run_equal_slice_nil w t e a l c ht]
theorem T.eqNilF {t e ty' : TypeId} {a : Option Addr} {l c : Nat} (x : Operand) (ht : P.underlying t = some (.slice e)) :
    Tri P N ⟨dst, .binOp .eql t x (.const (.slice none 0 0)) ty', ty, pos, af, gd⟩ [(x, .flat (.slice a l c)), (.const (.slice none 0 0), .flat (.slice none 0 0))] [] (.flat (.bool a.isNone)) [] := Tri.val fun M w G ρ hv =>
  ⟨_, run_eqNil w ρ hv.one hv.2.one ht ty', by simp only [Rep]⟩
theorem T.eqNilS {t e ty' : TypeId} {f : Bool} {n len : Nat} {cs : List D} (x : Operand) (ht : P.underlying t = some (.slice e)) (hl : 0 < len) (hn : 0 < n) :
    Tri P N ⟨dst, .binOp .eql t x (.const (.slice none 0 0)) ty', ty, pos, af, gd⟩ [(x, .sl f n len cs), (.const (.slice none 0 0), .flat (.slice none 0 0))] [] (.flat (.bool false)) [] := Tri.val fun M w G ρ hv => by
  have q1 := hv.1
  simp only [Rep] at q1
  obtain ⟨a, cap, r1, _, _, _, _, r6⟩ := q1
  rcases r6 with r6 | ⟨b, o, rfl, _⟩
  · have := Nat.mul_pos hl hn; omega
  · exact ⟨_, run_eqNil w ρ r1 hv.2.one ht ty', by simp only [Rep]; rfl⟩
theorem Le.empty {a : Option Addr} {c n : Nat} : Le (.flat (.slice a 0 c)) (.sl false n 0 []) := fun M w G v _ h => by
  simp only [Rep] at h ⊢
  exact ⟨a, c, h, Nat.zero_le _, fun e => (by cases e), by simp, by omega, .inl (by simp)⟩
/-- An empty slice in a slot: nil or not. -/
theorem DW.flatten {Q : Exit → DS → Prop} {c : Code} {f : Fr} {σ : Sg} (t : Nat) {q : Bool} {n : Nat} {cs : List D} (ht : lkF f t = .sl q n 0 cs) (h : ∀ a cap, DW P N c ⟨(t, .flat (.slice a 0 cap)) :: f, σ⟩ Q) : DW P N c ⟨f, σ⟩ Q := by
  refine ⟨fun w0 M0 B0 a w ⟨g, hs⟩ => ?_⟩
  have h1 := hs.tm t
  rw [ht] at h1
  simp only [Rep] at h1
  obtain ⟨ad, cap, r1, _⟩ := h1
  exact (h ad cap).go w0 M0 B0 a w ⟨g, StG.setF hs t _ (by simp only [Rep]; exact r1)⟩
end
theorem T.eqlSame {P : Program} {N : Nat} {dst : Option Tmp} {ty : TypeId} {pos : String} {af : Array Edge} {gd : Option (Nat × Bool)} {a : Bool} {t ty' : TypeId} (x y : Operand) (ht : P.underlying t = some .bool) : Tri P N ⟨dst, .binOp .eql t x y ty', ty, pos, af, gd⟩ [(x, .flat (.bool a)), (y, .flat (.bool a))] [] (.flat (.bool true)) [] := Tri.val fun M w G ρ hv => by
  have he : (Op.equal t (.bool a) (.bool a)).run P w = .ok (a == a) w := run_equalIn_bool w _ t a a ht
  exact ⟨.bool true, by simp [execOp, hv.one, hv.2.one, eqGuard, binOp, he], by simp only [Rep]⟩
theorem T.neqSame {P : Program} {N : Nat} {dst : Option Tmp} {ty : TypeId} {pos : String} {af : Array Edge} {gd : Option (Nat × Bool)} {a : Bool} {t ty' : TypeId} (x y : Operand) (ht : P.underlying t = some .bool) : Tri P N ⟨dst, .binOp .neq t x y ty', ty, pos, af, gd⟩ [(x, .flat (.bool a)), (y, .flat (.bool a))] [] (.flat (.bool false)) [] := Tri.val fun M w G ρ hv => by
  have he : (Op.equal t (.bool a) (.bool a)).run P w = .ok (a == a) w := run_equalIn_bool w _ t a a ht
  exact ⟨.bool false, by simp [execOp, hv.one, hv.2.one, eqGuard, binOp, he], by simp only [Rep]⟩
theorem T.buildA1 {P : Program} {N : Nat} {dst : Option Tmp} {ty : TypeId} {pos : String} {af : Array Edge} {gd : Option (Nat × Bool)} {len e n : Nat} {z : Value} {cs : List D} {i : Nat} {d : D} (t : TypeId) (x : Operand) (ht : P.underlying t = some (.array len e)) (hz : zeroT P t = some z) (hn : sizeOfT P e = some n)
    (h : fillD (fun i => some (i * n, n)) (flats z.cells) [(i, d)] = some cs) : Tri P N ⟨dst, .build t #[(i, x)], ty, pos, af, gd⟩ [(x, d)] [] (.agg cs) [] := T.buildA t [(i, x, d)] ht hz hn h
theorem T.buildA4 {P : Program} {N : Nat} {dst : Option Tmp} {ty : TypeId} {pos : String} {af : Array Edge} {gd : Option (Nat × Bool)} {len e n : Nat} {z : Value} {cs : List D} {i i2 i3 i4 : Nat} {d d2 d3 d4 : D} (t : TypeId) (x x2 x3 x4 : Operand) (ht : P.underlying t = some (.array len e)) (hz : zeroT P t = some z) (hn : sizeOfT P e = some n)
    (h : fillD (fun i => some (i * n, n)) (flats z.cells) [(i, d), (i2, d2), (i3, d3), (i4, d4)] = some cs) : Tri P N ⟨dst, .build t #[(i, x), (i2, x2), (i3, x3), (i4, x4)], ty, pos, af, gd⟩ [(x, d), (x2, d2), (x3, d3), (x4, d4)] [] (.agg cs) [] := T.buildA t [(i, x, d), (i2, x2, d2), (i3, x3, d3), (i4, x4, d4)] ht hz hn h
end Go.Dm
