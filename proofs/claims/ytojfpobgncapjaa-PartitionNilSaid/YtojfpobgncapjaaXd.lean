/- PartitionNil returns true. Condition: the pairs read as a list of pairs. -/
import Derived.Test.YtojfpobgncapjaaWx
set_option linter.unusedSimpArgs false
set_option linter.unusedVariables false
set_option maxHeartbeats 400000
namespace Go.PP
open Go Go.RowKit

/-- A cell of row j is written. -/
theorem OwnL.store {B : Nat} {e2 e1 : TypeId} {w : World} {v : Value} {vs : List Value} {rss : List (List Int)} (h : OwnL B e2 e1 w v vs rss) {j : Nat} {u : Value} {r : List Int} (hr : rss[j]? = some r) (hu : vs[j]? = some u) {m : Nat} (hm : m < r.length) :
    ∃ g c x, u = .slice (some ⟨g, 0, none⟩) r.length c ∧ B ≤ g ∧ w.cell? ⟨g, m, none⟩ = some x ∧ w.frozen? ⟨g, m, none⟩ = false ∧ ∀ y : Int, OwnL B e2 e1 (w.setCell ⟨g, m, none⟩ (.int .i64 y)) v vs (rss.set j (r.set m y)) := by
  have hrow := h.rows j r u hr hu
  have hpos : 0 < (r.map (Value.int .i64)).length := by simp; omega
  rcases hrow.2 with ⟨h0, hl⟩ | ⟨g, cap, cur, rfl, hb, hgg, h1, h2, h3, h4⟩
  · omega
  rw [List.length_map] at hrow ⊢
  have hcell : cur[m]? = some (.int .i64 r[m]) := by
    have h5 : (cur.toList.take ((r.map (Value.int .i64)).length * 1))[m]? = some (.int .i64 r[m]) := by rw [h4]; simp [hm]
    rw [List.getElem?_take, if_pos (by simp; omega)] at h5
    simpa using h5
  refine ⟨g, cap, _, rfl, hb, by simp only [World.cell?, hgg]; exact hcell, by simp [World.frozen?, hgg], fun y => ?_⟩
  have hM := (Mut.refl (fun b => b = g) w).setCell (p := ⟨g, m, none⟩) (fun _ => rfl) (.int .i64 y)
  refine ⟨ownsRow_mut h.own hM (fun k hk e => h.sepo j _ g hu rfl (by rw [hk, e])), by simp [h.len], fun i r' u' q1 q2 => ?_, h.sep, h.sepo⟩
  by_cases e : i = j
  · subst e
    rw [List.getElem?_set_self (by rw [← h.len]; exact (List.getElem?_eq_some_iff.1 hu).1)] at q1
    cases q1
    rw [hu] at q2; cases q2
    have := (hrow.stored m (.int .i64 y)).1
    simpa using this
  · rw [List.getElem?_set_ne (fun x => e x.symm)] at q1
    exact ownsRow_mut (h.rows i r' u' q1 q2) hM (fun k hk e2 => h.sep i j u' _ g e q2 hu (by rw [hk, e2]) rfl)

/-- The rows' values, as the outer cells hold them. -/
theorem OwnL.outer {B : Nat} {e2 e1 : TypeId} {w : World} {v : Value} {vs : List Value} {rss : List (List Int)} (h : OwnL B e2 e1 w v vs rss) {j : Nat} {r : List Int} (hr : rss[j]? = some r) :
    ∃ g c a d, v = .slice (some ⟨g, 0, none⟩) rss.length c ∧ vs[j]? = some (.slice a r.length d) ∧ w.cell? ⟨g, j, none⟩ = some (.slice a r.length d) := by
  have hj : j < vs.length := by rw [h.len]; exact (List.getElem?_eq_some_iff.1 hr).1
  obtain ⟨u, hu⟩ : ∃ u, vs[j]? = some u := ⟨vs[j], by simp⟩
  rcases h.own.2 with ⟨h0, hl⟩ | ⟨g, cap, cur, rfl, hb, hgg, h1, h2, h3, h4⟩
  · omega
  have hcell : cur[j]? = some u := by
    have h5 : (cur.toList.take (vs.length * 1))[j]? = some u := by rw [h4]; exact hu
    rw [List.getElem?_take, if_pos (by omega)] at h5
    simpa using h5
  rcases (h.rows j r u hr hu).2 with ⟨rfl, hl⟩ | ⟨g', cap', cur', rfl, -⟩
  · rw [List.length_map] at hl
    exact ⟨g, cap, none, 0, by rw [h.len], by rw [hl]; exact hu, by simp only [World.cell?, hgg]; rw [hl]; exact hcell⟩
  · rw [List.length_map] at hu hcell
    exact ⟨g, cap, _, _, by rw [h.len], hu, by simp only [World.cell?, hgg]; exact hcell⟩

theorem OwnL.slice {B : Nat} {e2 e1 : TypeId} {w : World} {v : Value} {vs : List Value} {rss : List (List Int)} (h : OwnL B e2 e1 w v vs rss) : ∃ a c, v = .slice a rss.length c := by
  rcases h.own.2 with ⟨rfl, hl⟩ | ⟨g, cap, cur, rfl, -⟩
  · exact ⟨none, 0, by rw [← h.len, hl]⟩
  · exact ⟨_, _, by rw [← h.len]⟩
end Go.PP
namespace Go.Proofs.Ytojfpobgncapjaa
open Go Go.RowKit Go.PP

theorem numblocks_nil (w : World) : Calls Try.prog 24 #[.pointer none] w fun e w' => e = .returned (.int .i64 0) ∧ Mut (fun _ => False) w w' := by
  go_enter Try.func24, Try.ntmps24
  go_wp2_with fail
  refine (blocks_nil _).mono ?_
  rintro e w1 ⟨rfl, hm⟩
  replace hm := Lib.hid hm
  go_wp2
  go_ret
  exact ⟨rfl, hm.out⟩

section
variable {w0 w : World} {L : List PE} {I : List (Value × List Int)}

theorem All.rewrite {w' : World} (h : All w0 L I w) {i : Nat} {x : PE} (hi : L[i]? = some x) {R' : List Int} (hm : Mut (· = x.u) w w') (hP : Part w' x.p x.u x.n R') : All w0 (L.set i ⟨x.p, x.u, x.n, R'⟩) I w' := by
  have hx := List.mem_of_getElem? hi
  have hlt : i < L.length := (List.getElem?_eq_some_iff.1 hi).1
  have key : ∀ j c, (L.set i ⟨x.p, x.u, x.n, R'⟩)[j]? = some c → (j = i ∧ c = ⟨x.p, x.u, x.n, R'⟩) ∨ (j ≠ i ∧ L[j]? = some c) := by
    intro j c hc
    by_cases e : i = j
    · subst e; rw [List.getElem?_set_self hlt] at hc; exact .inl ⟨rfl, (Option.some.inj hc).symm⟩
    · rw [List.getElem?_set_ne e] at hc; exact .inr ⟨fun e' => e e'.symm, hc⟩
  refine ⟨fun y hy => ?_, fun y hy => ?_, fun a b c d hab hc hd => ?_, fun y hy => ?_, h.mu.trans' hm (fun b hb e => by have := (h.new x hx).2; omega)⟩
  · obtain ⟨j, hj⟩ := List.getElem?_of_mem hy
    rcases key j y hj with ⟨_, rfl⟩ | ⟨h1, h2⟩
    · exact hP
    · have ha := h.apart j i y x h1 h2 hi
      exact (h.get h2).mut hm (fun e => ha.a e) (fun e => ha.c e)
  · obtain ⟨j, hj⟩ := List.getElem?_of_mem hy
    rcases key j y hj with ⟨_, rfl⟩ | ⟨h1, h2⟩
    · exact h.new x hx
    · exact h.new y (List.mem_of_getElem? h2)
  · rcases key a c hc with ⟨h1, rfl⟩ | ⟨h1, h2⟩
    · rcases key b d hd with ⟨h3, rfl⟩ | ⟨h3, h4⟩
      · omega
      · have := h.apart i b x d (by omega) hi h4; exact ⟨⟨this.a, this.b, this.c⟩, this.d⟩
    · rcases key b d hd with ⟨h3, rfl⟩ | ⟨h3, h4⟩
      · have := h.apart a i c x (by omega) h2 hi; exact ⟨⟨this.a, this.b, this.c⟩, this.d⟩
      · exact h.apart a b c d hab h2 h4
  · refine ((h.ints y hy).mut hm (fun b _ e => ⟨x, hx, .inl e⟩)).mono ?_
    rintro b - ⟨z, hz, hzb⟩
    obtain ⟨j, hj⟩ := List.getElem?_of_mem hz
    rcases key j z hj with ⟨_, rfl⟩ | ⟨h3, h4⟩
    · exact ⟨x, hx, hzb⟩
    · exact ⟨z, List.mem_of_getElem? h4, hzb⟩

def UnionAll (w0 : World) (L : List PE) (I : List (Value × List Int)) (i : Nat) (x : PE) (e : Ending) (w' : World) : Prop :=
  ∃ was er R', e = .returned (.tuple #[.bool was, .int .i64 er]) ∧ All w0 (L.set i ⟨x.p, x.u, x.n, R'⟩) I w' ∧ (refB x.n R' x.R && refB x.n x.R R') = !was

theorem union_all (h : All w0 L I w) (i : Nat) {x : PE} (hi : L[i]? = some x) (a b : Int) :
    Calls Try.prog 21 #[.pointer (some ⟨x.p, 0, none⟩), .int .i64 a, .int .i64 b] w (UnionAll w0 L I i x) := by
  have hP := h.get hi
  have hg := hP.good
  refine (union_any a b w x.p x.u x.n x.R hP).mono ?_
  rintro e w' (⟨ht, x1, y1, hx1, hy1, rfl, hP3, hm3⟩ | ⟨_, rfl, rfl⟩)
  · refine ⟨_, _, _, rfl, h.rewrite hi hm3 hP3, ?_⟩
    by_cases e : x1 = y1
    · subst e
      simp [merged_self, refB_self hg]
    · have hne : ((x1 : Int) != (y1 : Int)) = true := by simp; omega
      rw [hne]
      simp only [Bool.not_true, Bool.and_eq_false_imp]
      intro h1
      exfalso
      rw [refB, decide_eq_true_eq] at h1
      -- the greater of the two heads
      simp only [Bool.and_eq_true] at ht
      obtain ⟨i1, rfl, hi1⟩ := thereB_true ht.1
      obtain ⟨j1, rfl, hj1⟩ := thereB_true ht.2
      simp only [Int.toNat_natCast] at hx1 hy1
      obtain ⟨r, q1, q2, q3⟩ := hg.rep i1 hi1
      obtain rfl : x1 = r := some_nat_inj (hx1.symm.trans q2)
      obtain ⟨s, t1, t2, t3⟩ := hg.rep j1 hj1
      obtain rfl : y1 = s := some_nat_inj (hy1.symm.trans t2)
      have hmax : x.R[max x1 y1]? = some ((max x1 y1 : Nat) : Int) := by
        rcases Nat.le_total x1 y1 with e2 | e2
        · rw [Nat.max_eq_right e2]; exact t3
        · rw [Nat.max_eq_left e2]; exact q3
      have hmin : x.R[min x1 y1]? = some ((min x1 y1 : Nat) : Int) := by
        rcases Nat.le_total x1 y1 with e2 | e2
        · rw [Nat.min_eq_left e2]; exact q3
        · rw [Nat.min_eq_right e2]; exact t3
      have h2 := h1 (max x1 y1) (by omega)
      rw [getD_of (merged_at (m := max x1 y1) (k := min x1 y1) hmax), if_pos rfl, getD_of hmax] at h2
      simp only [Int.toNat_natCast] at h2
      rw [getD_of hmin] at h2
      omega
  · refine ⟨false, 1, x.R, rfl, ?_, by simp [refB_self hg]⟩
    have := h.rewrite hi (Mut.refl _ _) hP
    exact this
end

set_option maxRecDepth 8000 in
set_option maxHeartbeats 8000000 in
theorem nil_no (n : Int) (vp : Value) (a b : Int) (w : World) (h : n < 0 ∨ 40 < n) : Calls Try.prog 10 #[.int .i64 n, vp, .int .i64 a, .int .i64 b] w (TruePost w) := by
  replace h := Lib.hid h
  have hA := Lib.hid (All.start w)
  go_enter Try.func10, Try.ntmps10
  go_wp2_with fail
  refine (made_no n vp w h.out).mono ?_
  rintro e w1 ⟨rfl, hm⟩
  replace hA := Lib.hid (hA.out.quiet hm)
  clear hm
  go_wp2_with fail
  refine (union_nil a b _).mono ?_
  rintro e w1 ⟨rfl, rfl⟩
  go_wp2_with fail
  refine (find_nil a _).mono ?_
  rintro e w1 ⟨rfl, rfl⟩
  go_wp2_with fail
  refine (meet_nilL (.pointer none) _).mono ?_
  rintro e w1 ⟨rfl, rfl⟩
  go_wp2_with fail
  refine (joinp_nilL (.pointer none) _).mono ?_
  rintro e w1 ⟨rfl, rfl⟩
  go_wp2_with fail
  refine (split_nil (fun _ => False) (.slice none 0 0) [] _ (SliceIn.nil _ _)).mono ?_
  rintro e w2 ⟨rfl, hm⟩
  replace hA := Lib.hid (hA.out.quiet hm)
  clear hm
  go_wp2_with fail
  refine (len_nil _).mono ?_
  rintro e w1 ⟨rfl, rfl⟩
  go_wp2_with fail
  refine (conn_nil a b _).mono ?_
  rintro e w1 ⟨rfl, rfl⟩
  go_wp2_with fail
  refine (numblocks_nil _).mono ?_
  rintro e w3 ⟨rfl, hm⟩
  replace hA := Lib.hid (hA.out.quiet hm)
  clear hm
  go_wp2_with fail
  refine (size_nil a _).mono ?_
  rintro e w1 ⟨rfl, rfl⟩
  go_wp2_with fail
  refine (blocks_nil _).mono ?_
  rintro e w4 ⟨rfl, hm⟩
  replace hA := Lib.hid (hA.out.quiet hm)
  clear hm
  go_wp2_with fail
  refine (refines_nilL (.pointer none) _).mono ?_
  rintro e w1 ⟨rfl, rfl⟩
  go_wp2_with fail
  refine (clone_nil _).mono ?_
  rintro e w1 ⟨rfl, rfl⟩
  go_wp2_with fail
  refine (equal_nn _).mono ?_
  rintro e w1 ⟨rfl, rfl⟩
  go_wp2_with fail
  refine (known_all hA.out).mono ?_
  rintro e w5 ⟨rfl, hA5⟩
  have hE := Lib.hid hA5.mu
  clear hA hA5
  go_wp2
  go_ret
  exact ⟨rfl, hE.out⟩

/-- What holds while the rows of Blocks are written. -/
def Wr (w0 : World) (w3 : World) (p u n : Nat) (R : List Int) (v : Value) (vs : List Value) (wr : World) : Prop :=
  ∃ rss, OwnL w3.heap.size 24 3 wr v vs rss ∧ rss.map List.length = (rowsTo R n).map List.length ∧ Part wr p u n R ∧ Mut (· = u) w3 wr

theorem Wr.len {w0 w3 wr : World} {p u n : Nat} {R : List Int} {v : Value} {vs : List Value} (h : Wr w0 w3 p u n R v vs wr) : ∃ a c, v = .slice a (rowsTo R n).length c := by
  obtain ⟨rss, h1, h2, _⟩ := h
  obtain ⟨a, c, e⟩ := h1.slice
  have := congrArg List.length h2
  simp only [List.length_map] at this
  exact ⟨a, c, by rw [e, this]⟩

theorem Wr.outer {w0 w3 wr : World} {p u n : Nat} {R : List Int} {v : Value} {vs : List Value} (h : Wr w0 w3 p u n R v vs wr) {j : Nat} {r : List Int} (hj : (rowsTo R n)[j]? = some r) :
    ∃ g c a d, v = .slice (some ⟨g, 0, none⟩) (rowsTo R n).length c ∧ vs[j]? = some (.slice a r.length d) ∧ wr.cell? ⟨g, j, none⟩ = some (.slice a r.length d) := by
  obtain ⟨rss, h1, h2, _⟩ := h
  have hlen := congrArg List.length h2
  simp only [List.length_map] at hlen
  obtain ⟨r', hr'⟩ : ∃ r', rss[j]? = some r' := ⟨rss[j]'(by rw [hlen]; exact (List.getElem?_eq_some_iff.1 hj).1), by simp⟩
  have h3 := congrArg (fun l => l[j]?) h2
  simp only [List.getElem?_map, hr', hj, Option.map_some, Option.some.injEq] at h3
  obtain ⟨g, c, a, d, q1, q2, q3⟩ := h1.outer hr'
  rw [hlen] at q1
  rw [h3] at q2 q3
  exact ⟨g, c, a, d, q1, q2, q3⟩

theorem Wr.store {w0 w3 wr : World} {p u n : Nat} {R : List Int} {v : Value} {vs : List Value} (h : Wr w0 w3 p u n R v vs wr) (hpu : p < w3.heap.size ∧ u < w3.heap.size) {j : Nat} {r : List Int} (hj : (rowsTo R n)[j]? = some r) {a : Option Addr} {d : Nat} (hu : vs[j]? = some (.slice a r.length d)) {m : Nat} (hm : m < r.length) :
    ∃ g x, a = some ⟨g, 0, none⟩ ∧ wr.cell? ⟨g, m, none⟩ = some x ∧ wr.frozen? ⟨g, m, none⟩ = false ∧ Wr w0 w3 p u n R v vs (wr.setCell ⟨g, m, none⟩ (.int .i64 (-1))) := by
  obtain ⟨rss, h1, h2, h3, h4⟩ := h
  have hlen := congrArg List.length h2
  simp only [List.length_map] at hlen
  obtain ⟨r', hr'⟩ : ∃ r', rss[j]? = some r' := ⟨rss[j]'(by rw [hlen]; exact (List.getElem?_eq_some_iff.1 hj).1), by simp⟩
  have h5 := congrArg (fun l => l[j]?) h2
  simp only [List.getElem?_map, hr', hj, Option.map_some, Option.some.injEq] at h5
  obtain ⟨g, c, x, q1, q2, q3, q4, q5⟩ := h1.store hr' hu (m := m) (by omega)
  simp only [Value.slice.injEq] at q1
  refine ⟨g, x, q1.1, q3, q4, rss.set j (r'.set m (-1)), q5 _, ?_, ?_, ?_⟩
  · rw [List.map_set, h2, ← h2]
    refine List.ext_getElem? fun i => ?_
    by_cases e : j = i
    · subst e
      rw [List.getElem?_set_self (by rw [List.length_map]; exact (List.getElem?_eq_some_iff.1 hr').1)]
      simp [hr']
    · rw [List.getElem?_set_ne e]
  · exact h3.mut (S := fun b => b = g) ((Mut.refl (fun b => b = g) wr).setCell (p := ⟨g, m, none⟩) (fun _ => rfl) _) (by omega) (by omega)
  · exact h4.setCell (p := ⟨g, m, none⟩) (fun e => absurd e (by show ¬ g < w3.heap.size; omega)) _

set_option maxRecDepth 8000 in
set_option maxHeartbeats 16000000 in
theorem nil_yes (n : Nat) (vp : Value) (ps : List (Int × Int)) (a b : Int) (w : World) (hn : n ≤ 40) (hp : Pairs w vp ps) : Calls Try.prog 10 #[.int .i64 n, vp, .int .i64 a, .int .i64 b] w (TruePost w) := by
  have hA := Lib.hid (All.start w)
  replace hp := Lib.hid hp
  go_enter Try.func10, Try.ntmps10
  go_wp2_with fail
  refine (made_all hA.out hn hp.out).mono ?_
  rintro e w1 ⟨p, u, v, rfl, hA1, _⟩
  generalize foldP n ps (min ps.length 60) = R at *
  replace hA := Lib.hid hA1
  obtain ⟨va, vc, rfl⟩ := hA.out.slice 0 rfl
  clear hA1
  go_wp2_with fail
  refine (union_nil a b _).mono ?_
  rintro e w1 ⟨rfl, rfl⟩
  go_wp2_with fail
  refine (find_nil a _).mono ?_
  rintro e w1 ⟨rfl, rfl⟩
  go_wp2_with fail
  refine (meet_nilL (.pointer (some ⟨p, 0, none⟩)) _).mono ?_
  rintro e w1 ⟨rfl, rfl⟩
  go_wp2_with fail
  refine (joinp_nilL (.pointer (some ⟨p, 0, none⟩)) _).mono ?_
  rintro e w1 ⟨rfl, rfl⟩
  go_wp2_with fail
  refine (split_nil (fun _ => False) (.slice none 0 0) [] _ (SliceIn.nil _ _)).mono ?_
  rintro e w2 ⟨rfl, hm⟩
  replace hA := Lib.hid (hA.out.quiet hm)
  clear hm
  go_wp2_with fail
  refine (len_nil _).mono ?_
  rintro e w1 ⟨rfl, rfl⟩
  go_wp2_with fail
  refine (conn_nil a b _).mono ?_
  rintro e w1 ⟨rfl, rfl⟩
  go_wp2_with fail
  refine (numblocks_nil _).mono ?_
  rintro e w3 ⟨rfl, hm⟩
  replace hA := Lib.hid (hA.out.quiet hm)
  clear hm
  go_wp2_with fail
  refine (size_nil a _).mono ?_
  rintro e w1 ⟨rfl, rfl⟩
  go_wp2_with fail
  refine (blocks_nil _).mono ?_
  rintro e w4 ⟨rfl, hm⟩
  replace hA := Lib.hid (hA.out.quiet hm)
  clear hm
  go_wp2_with fail
  refine (refines_nilL (.pointer (some ⟨p, 0, none⟩)) _).mono ?_
  rintro e w1 ⟨rfl, rfl⟩
  go_wp2_with fail
  refine (clone_nil _).mono ?_
  rintro e w1 ⟨rfl, rfl⟩
  go_wp2_with fail
  refine (equal_nn _).mono ?_
  rintro e w1 ⟨rfl, rfl⟩
  go_wp2_with fail
  refine (clone_all hA.out 0 rfl).mono ?_
  rintro e w5 ⟨q, s, rfl, hA5⟩
  replace hA := Lib.hid hA5
  clear hA5
  have hP := hA.out.get (i := 0) rfl
  have hpu := Lib.hid (And.intro hP.plt hP.ult)
  replace hP := Lib.hid hP
  go_wp2_with fail
  refine (blocks_own _ p u n R hP.out).mono ?_
  rintro e w6 ⟨vl, vs, rfl, hO, hP6, hm6⟩
  have hW := Lib.hid (show Wr w w5 p u n R vl vs w6 from ⟨_, hO, rfl, hP6, hm6⟩)
  have hrl : ∀ (j : Nat) r, (rowsTo R n)[j]? = some r → r.length ≤ n := fun j r hj => by
    simp only [rowsTo, List.getElem?_map] at hj
    obtain ⟨h, _, rfl⟩ := Option.map_eq_some_iff.1 hj
    exact blockTo_len R h n
  have hll : (rowsTo R n).length ≤ n := by rw [rowsTo_len]; exact heads_len R n
  replace hrl := Lib.hid hrl
  obtain ⟨la, lc, rfl⟩ := hW.out.len
  clear hO hP6 hm6 hP
  go_wp2
  go_loopw [22] (fun i wr => ∃ k : Nat, k ≤ (rowsTo R n).length ∧ i = .int .i64 k ∧ Wr w w5 p u n R (.slice la (rowsTo R n).length lc) vs wr) (fun i _ => (rowsTo R n).length - (intOf i).toNat)
  case atStart => exact ⟨0, by omega, rfl, hW.out⟩
  case round =>
    obtain ⟨k, hk, rfl, hW1⟩ := hrel
    clear hW
    replace hW1 := Lib.hid hW1
    by_cases hlt : k < (rowsTo R n).length
    · obtain ⟨r, hr⟩ : ∃ r, (rowsTo R n)[k]? = some r := ⟨(rowsTo R n)[k], by simp⟩
      have hrn := hrl.out k r hr
      replace hr := Lib.hid hr
      go_wp2
      obtain ⟨wo, rfl⟩ : ∃ wo : World, wo = wr := ⟨_, rfl⟩
      go_loopw [23] (fun i wr => ∃ m : Nat, m ≤ r.length ∧ i = .int .i64 m ∧ Wr w w5 p u n R (.slice la (rowsTo R n).length lc) vs wr) (fun i _ => r.length - (intOf i).toNat)
      case atStart => exact ⟨0, by omega, rfl, hW1.out⟩
      case round =>
        obtain ⟨m, hm, rfl, hW2⟩ := hrel
        clear hW1
        obtain ⟨g, c, ra, rd, hv, hvk, hck⟩ := hW2.outer hr.out
        simp only [Value.slice.injEq, true_and] at hv
        obtain ⟨rfl, rfl⟩ := hv
        by_cases hml : m < r.length
        · obtain ⟨g2, x, rfl, hcx, hfx, hW3⟩ := hW2.store hpu.out hr.out hvk hml
          replace hW2 := Lib.hid hW2
          replace hW3 := Lib.hid hW3
          clear hvk hW2
          go_wp2
          go_roundw
          case rel => exact ⟨m + 1, by omega, by go_num, hW3.out⟩
          case measure => simp [intOf]; omega
        · obtain rfl : m = r.length := by omega
          replace hW2 := Lib.hid hW2
          clear hvk
          go_wp2
          go_roundw
          case rel => exact ⟨k + 1, by omega, by go_num, hW2.out⟩
          case measure => simp [intOf]; omega
    · obtain rfl : k = (rowsTo R n).length := by omega
      obtain ⟨rss, -, -, hP7, hm7⟩ := hW1.out
      have hA7 := Lib.hid (hA.out.write (i := 0) rfl hm7 (fun _ e => e) hP7)
      clear hW1 hP7 hm7 hA
      go_wp2_with fail
      refine (meet_nilR p _).mono ?_
      rintro e w1 ⟨rfl, rfl⟩
      go_wp2_with fail
      refine (union_all hA7.out 1 rfl a b).mono ?_
      rintro e w8 ⟨was, er, R', rfl, hA8, hwas⟩
      replace hA8 := Lib.hid hA8
      replace hwas := Lib.hid hwas
      have hww : ((!was) == (!was)) = true := by simp
      clear hA7
      go_wp2_with fail
      refine (equal_pn p _).mono ?_
      rintro e w1 ⟨rfl, rfl⟩
      go_wp2_with fail
      refine (equal_np p _).mono ?_
      rintro e w1 ⟨rfl, rfl⟩
      go_wp2_with fail
      refine (refines_nilR p _).mono ?_
      rintro e w1 ⟨rfl, rfl⟩
      go_wp2_with fail
      refine (same_all hA8.out 0 0 rfl rfl).mono ?_
      rintro e w9 ⟨rfl, hA9⟩
      replace hA9 := Lib.hid hA9
      clear hA8
      go_wp2_with fail
      refine (equal_all hA9.out 1 0 rfl rfl (by decide) rfl).mono ?_
      rw [hwas.out]
      rintro e w10 ⟨rfl, hA10⟩
      replace hA10 := Lib.hid hA10
      clear hA9
      go_wp2_with fail
      refine (known_all hA10.out).mono ?_
      rintro e w11 ⟨rfl, hA11⟩
      have hE := Lib.hid hA11.mu
      clear hA10 hA11
      go_wp2
      go_ret
      exact ⟨rfl, hE.out⟩

theorem nil_walk (n : Int) (vp : Value) (ps : List (Int × Int)) (a b : Int) (w : World) (hp : Pairs w vp ps) :
    Calls Try.prog 10 #[.int .i64 n, vp, .int .i64 a, .int .i64 b] w fun e w' => e = .returned (.bool true) ∧ Below w.heap.size w w' := by
  have key : Calls Try.prog 10 #[.int .i64 n, vp, .int .i64 a, .int .i64 b] w (TruePost w) := by
    by_cases hn : n < 0 ∨ 40 < n
    · exact nil_no n vp a b w hn
    · obtain ⟨k, rfl⟩ := Int.eq_ofNat_of_zero_le (show 0 ≤ n by omega)
      exact nil_yes k vp ps a b w (by omega) hp
  exact key.mono fun e w' h => ⟨h.1, h.2.below⟩
end Go.Proofs.Ytojfpobgncapjaa
