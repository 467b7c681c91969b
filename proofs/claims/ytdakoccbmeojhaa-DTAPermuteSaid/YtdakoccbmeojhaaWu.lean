/- Contract of some. Condition: a valid automaton and a closed list of its states. -/
import Derived.Test.YtdakoccbmeojhaaWt
set_option linter.unusedSimpArgs false
set_option linter.unusedVariables false
set_option maxHeartbeats 400000
namespace Go.Proofs.Ytdakoccbmeojhaa
open Go Go.RowKit Go.PP

def ixF (l : List Int) (j : Nat) (i : Nat) : Value := .int .i64 (if (i : Int) ∈ l.take j then ((l.idxOf (i : Int) : Nat) : Int) else 0)
theorem ixF_next {l : List Int} {j sn : Nat} (hn : l.Nodup) (h : l[j]? = some (sn : Int)) (i : Nat) : (if i = sn then (Value.int .i64 (j : Int)) else ixF l j i) = ixF l (j + 1) i := by
  obtain ⟨h2, h3⟩ := List.getElem?_eq_some_iff.1 h
  unfold ixF
  rw [List.take_succ_eq_append_getElem h2, h3]
  by_cases e : i = sn
  · subst e
    rw [if_pos rfl, if_pos (by simp), idx_at l j _ hn h]
  · have : ((i : Int) ∈ l.take j ++ [(sn : Int)]) ↔ (i : Int) ∈ l.take j := by simp; omega
    rw [if_neg e]
    simp only [this]

theorem OwnA.mut {S : Nat → Prop} {B : Nat} {w w' : World} {v1 v2 v3 : Value} {A : Au} (h : OwnA B w v1 v2 v3 A) (m : Mut S w w') (hs : ∀ k, B ≤ k → ¬ S k) : OwnA B w' v1 v2 v3 A := by
  obtain ⟨h1, h2, vs, h3⟩ := h
  exact ⟨ownsRow_mut h1 m (fun k hk => hs k (h1.lt k hk).1), ownsRow_mut h2 m (fun k hk => hs k (h2.lt k hk).1), vs, h3.mut m (fun k hk _ e => absurd e (hs k hk))⟩
theorem OwnA.base {B B' : Nat} {w : World} {v1 v2 v3 : Value} {A : Au} (h : OwnA B w v1 v2 v3 A) (hB : B' ≤ B) : OwnA B' w v1 v2 v3 A := by
  obtain ⟨h1, h2, vs, h3⟩ := h
  exact ⟨own_base h1 hB, own_base h2 hB, vs, ⟨own_base h3.own hB, h3.len, fun j u r q1 q2 => own_base (h3.rows j u r q1 q2) hB⟩⟩

/-- What holds once some has laid its variables. -/
structure Sm (B : Nat) (v1 v2 v3 vo : Value) (n : Nat) (w : World) : Prop where
  box : BoxA B v1 v2 v3 w
  old : w.cell? ⟨B + 1, 0, none⟩ = some vo
  res : BoxA (B + 1 + 1) (.slice none 0 0) (.slice none 0 0) (.slice none 0 0) w
  fr : ∀ i, w.frozen? ⟨B + 1 + 1, i, none⟩ = false
  ix : w.cell? ⟨B + 1 + 1 + 1 + 1, 0, none⟩ = some (.slice (some ⟨B + 1 + 1 + 1, 0, none⟩) n n)
  size : B + 5 ≤ w.heap.size
theorem Sm.mut {S : Nat → Prop} {B n : Nat} {v1 v2 v3 vo : Value} {w w' : World} (h : Sm B v1 v2 v3 vo n w) (m : Mut S w w') (hs : ∀ k, S k → k = B + 1 + 1 + 1 ∨ B + 5 ≤ k) : Sm B v1 v2 v3 vo n w' := by
  have ne : ∀ k, k < B + 5 → k ≠ B + 1 + 1 + 1 → ¬ S k := fun k h1 h2 e => by rcases hs k e with h | h <;> omega
  have n0 : ¬ S B := ne _ (by omega) (by omega)
  have n1 : ¬ S (B + 1) := ne _ (by omega) (by omega)
  have n2 : ¬ S (B + 1 + 1) := ne _ (by omega) (by omega)
  have n4 : ¬ S (B + 1 + 1 + 1 + 1) := ne _ (by omega) (by omega)
  exact ⟨⟨m.cell h.box.c0 n0, m.cell h.box.c1 n0, m.cell h.box.c2 n0⟩, m.cell h.old n1, ⟨m.cell h.res.c0 n2, m.cell h.res.c1 n2, m.cell h.res.c2 n2⟩,
    fun i => (m.frozen (a := ⟨B + 1 + 1, i, none⟩) (by have := h.size; show B + 1 + 1 < _; omega) n2).trans (h.fr i), m.cell h.ix n4, Nat.le_trans h.size m.size⟩

theorem sm_start (w : World) (v1 v2 v3 vo : Value) (n : Nat) :
    Sm w.heap.size v1 v2 v3 vo n (((((w.alloc (.cells #[v1, v2, v3] 35)).alloc (.cells #[vo] 22)).alloc (.cells #[.slice none 0 0, .slice none 0 0, .slice none 0 0] 35)).alloc (.cells (madeCells #[.int .i64 0] n) 3)).alloc (.cells #[.slice (some ⟨w.heap.size + 1 + 1 + 1, 0, none⟩) n n] 22)) ∧
    (((((w.alloc (.cells #[v1, v2, v3] 35)).alloc (.cells #[vo] 22)).alloc (.cells #[.slice none 0 0, .slice none 0 0, .slice none 0 0] 35)).alloc (.cells (madeCells #[.int .i64 0] n) 3)).alloc (.cells #[.slice (some ⟨w.heap.size + 1 + 1 + 1, 0, none⟩) n n] 22)).rowIs (w.heap.size + 1 + 1 + 1) 3 n (fun _ => .int .i64 0) := by
  refine ⟨⟨⟨?_, ?_, ?_⟩, ?_, ⟨?_, ?_, ?_⟩, fun i => ?_, ?_, by simp⟩, ?_⟩
  · exact box_keep _ (box_keep _ (box_keep _ (box_keep _ (box_at _ _ rfl _ _ _ _ rfl))))
  · exact box_keep _ (box_keep _ (box_keep _ (box_keep _ (box_at _ _ rfl _ _ _ _ rfl))))
  · exact box_keep _ (box_keep _ (box_keep _ (box_keep _ (box_at _ _ rfl _ _ _ _ rfl))))
  · exact box_keep _ (box_keep _ (box_keep _ (box_at _ _ (by simp) _ _ _ _ rfl)))
  · exact box_keep _ (box_keep _ (box_at _ _ (by simp) _ _ _ _ rfl))
  · exact box_keep _ (box_keep _ (box_at _ _ (by simp) _ _ _ _ rfl))
  · exact box_keep _ (box_keep _ (box_at _ _ (by simp) _ _ _ _ rfl))
  · go_simp
  · exact box_at _ _ (by simp) _ _ _ _ rfl
  · have h := World.rowIs_made (((w.alloc (.cells #[v1, v2, v3] 35)).alloc (.cells #[vo] 22)).alloc (.cells #[.slice none 0 0, .slice none 0 0, .slice none 0 0] 35)) (.int .i64 0) n 3
    rw [show (((w.alloc (.cells #[v1, v2, v3] 35)).alloc (.cells #[vo] 22)).alloc (.cells #[.slice none 0 0, .slice none 0 0, .slice none 0 0] 35)).heap.size = w.heap.size + 1 + 1 + 1 from by simp] at h
    exact h.alloc _

set_option maxRecDepth 8000 in
set_option maxHeartbeats 8000000 in
theorem some_any (A : Au) (hok : AuOk A) (old : List Int) (hsh : ShutL A old) (v1 v2 v3 vo : Value) (w : World) (hA : AuIn (fun _ => False) w v1 v2 v3 A) (hio : Ints (fun _ => False) w vo old) :
    Calls Try.prog 62 #[.agg #[v1, v2, v3], vo] w (MadePost w (keptA A old)) := by
  have hio0 := Lib.hid hio
  have hA0 := Lib.hid hA
  obtain ⟨xo, co, rfl, lo⟩ := hio.open'
  obtain ⟨a1, c1, a2, c2, a3, c3, rfl, rfl, rfl, -, -, -⟩ := hA.open
  have hn : A.final.length ≤ 512 := hok.hi
  have hon : old.length ≤ 512 := hsh.hi
  have hmk := fun w => run_make_row' (P := Try.prog) 22 3 (.int .i64 0) 8 Try.underlying22 info3 rfl .i64 .i64 A.final.length (by omega) (by omega) w
  replace hok := Lib.hid hok
  replace hsh := Lib.hid hsh
  clear hio hA
  go_enter Try.func62, Try.ntmps62
  go_wp2
  have hSm := sm_start w (.slice a1 A.ranks.length c1) (.slice a2 A.final.length c2) (.slice a3 A.to.length c3) (.slice xo old.length co) A.final.length
  have hF5 : Fix w (((((w.alloc (.cells #[.slice a1 A.ranks.length c1, .slice a2 A.final.length c2, .slice a3 A.to.length c3] 35)).alloc (.cells #[.slice xo old.length co] 22)).alloc (.cells #[.slice none 0 0, .slice none 0 0, .slice none 0 0] 35)).alloc (.cells (madeCells #[.int .i64 0] A.final.length) 3)).alloc (.cells #[.slice (some ⟨w.heap.size + 1 + 1 + 1, 0, none⟩) A.final.length A.final.length] 22)) := (((((Mut.refl _ w).alloc _).alloc _).alloc _).alloc _).alloc _
  generalize ((((w.alloc (.cells #[.slice a1 A.ranks.length c1, .slice a2 A.final.length c2, .slice a3 A.to.length c3] 35)).alloc (.cells #[.slice xo old.length co] 22)).alloc (.cells #[.slice none 0 0, .slice none 0 0, .slice none 0 0] 35)).alloc (.cells (madeCells #[.int .i64 0] A.final.length) 3)).alloc (.cells #[.slice (some ⟨w.heap.size + 1 + 1 + 1, 0, none⟩) A.final.length A.final.length] 22) = W5 at *
  replace hF5 := Lib.hid hF5
  have hst := Lib.hid (hSm.2.congr (g := ixF old 0) (fun i _ => by simp [ixF]))
  replace hSm := Lib.hid hSm.1
  go_loopw [14] (fun i wr => ∃ j : Nat, j ≤ old.length ∧ i = .int .i64 j ∧ Mut (fun b => b = w.heap.size + 1 + 1 + 1) W5 wr ∧ wr.rowIs (w.heap.size + 1 + 1 + 1) 3 A.final.length (ixF old j)) (fun i _ => old.length - (intOf i).toNat)
  case atStart => exact ⟨0, by omega, rfl, Mut.refl _ _, hst.out⟩
  case round =>
    clear hst
    obtain ⟨j, hj, rfl, hm, hrow⟩ := hrel
    have hS := hSm.out.mut hm (fun k e => .inl e)
    have hfw := Lib.hid (hF5.out.trans' hm (fun i hi e => by omega))
    by_cases hlt : j < old.length
    · obtain ⟨b6, off6, y, rfl, hy, hcy⟩ := hio0.out.slot hfw.out hlt
      obtain ⟨hy0, hy1⟩ := hsh.out.rng y (List.mem_of_getElem? hy)
      obtain ⟨sn, rfl⟩ := Int.eq_ofNat_of_zero_le hy0
      have hix := hS.ix
      have hsl : sn < A.final.length := by omega
      have hcu := hrow.cell (i := sn) hsl
      have hfu := hrow.frozen sn
      have hE := Lib.hid (And.intro (hm.setCell (p := ⟨w.heap.size + 1 + 1 + 1, sn, none⟩) (fun _ => rfl) (.int .i64 j)) ((hrow.set sn (.int .i64 j)).congr (fun i _ => ixF_next hsh.out.nd hy i)))
      generalize ixF old j sn = z at *
      clear hrow hm hy hS hy0 hy1
      go_wp2
      go_roundw
      case rel => exact ⟨j + 1, by omega, by go_num, hE.out.1, hE.out.2⟩
      case measure => simp [intOf]; omega
    · obtain rfl : j = old.length := by omega
      have his := Lib.hid (show Ints (fun _ => False) wr (.slice (some ⟨w.heap.size + 1 + 1 + 1, 0, none⟩) A.final.length A.final.length) (ixL A.final.length old) from
        ints_rowIs (hrow.congr (fun i hi => by simp [ixF, ixL, List.getD, hi])) (by simp [ixL]) (by omega))
      obtain ⟨⟨k0, k1, k2⟩, hold, ⟨r0, r1, r2⟩, hfr, hix, hsz⟩ := hS
      have hcall := Lib.hid (show Calls Try.prog 66 _ wr (MadePost wr (keptA A old)) from made_any A.ranks old.length (.slice a1 A.ranks.length c1) 77 78 #[] #[.pointer (some ⟨w.heap.size + 1, 0, none⟩), .pointer (some ⟨w.heap.size + 1 + 1 + 1 + 1, 0, none⟩), .pointer (some ⟨w.heap.size, 0, none⟩)] #[] #[.pointer (some ⟨w.heap.size, 0, none⟩), .pointer (some ⟨w.heap.size + 1, 0, none⟩)] (keptT A old) (keptF A old) wr
        (hA0.out.r.fix hfw.out) hok.out.alpha.rng hok.out.alpha.hi hon (fun args w => by go_simp) (fun args w => by go_simp)
        (fun i p k wz v hk hp hfz hv => by
          have hk0 := hok.out.alpha.rng k (List.mem_of_getElem? hk)
          have hdl : ((digs old.length k.toNat p).length : Int) = k := by rw [digs_len]; omega
          have hdr := digs_rng hsh.out.pos k.toNat p
          have hmem := hsh.out.shut i k _ hk hdl hdr
          have hrg := hsh.out.rng _ hmem
          have h := some1_any A hok.out old (ixL A.final.length old) (digs old.length k.toNat p) i _ _ _ _ _ v _ _ _ wz (hfz.cell hold (by simp)) (hfz.cell hix (by simp)) (BoxA.fix ⟨k0, k1, k2⟩ hfz) (hA0.out.fix (hfw.out.trans hfz)) (hio0.out.fix (hfw.out.trans hfz)) (his.out.fix hfz) hv (by simp [ixL]) hdr (by omega) (hsh.out.fits hk hdl hdr)
          rw [ixL_at hmem hrg.1 hrg.2] at h
          exact h)
        (fun s wz hs hfz => some2_any A old s _ _ _ _ _ _ wz (hfz.cell hold (by simp)) (BoxA.fix ⟨k0, k1, k2⟩ hfz) (hA0.out.fix (hfw.out.trans hfz)) (hio0.out.fix (hfw.out.trans hfz)) hs hsh.out.rng))
      generalize keptA A old = MA at *
      clear hrow hm hix
      replace hfr := Lib.hid hfr
      go_wp2_with fail
      refine hcall.out.mono ?_
      rintro e w2 ⟨u1, u2, u3, rfl, hO, m2⟩
      obtain ⟨x1, y1, rfl⟩ := ownsRow_slice hO.r
      obtain ⟨x2, y2, rfl⟩ := ownsRow_slice hO.f
      obtain ⟨x3, y3, rfl⟩ : ∃ a c, u3 = .slice a MA.to.length c := by
        obtain ⟨vs, h⟩ := hO.t
        have h1 := ownsRow_slice h.own
        rw [h.len] at h1
        exact h1
      replace r0 := m2.cell r0 (by simp)
      replace r1 := m2.cell r1 (by simp)
      replace r2 := m2.cell r2 (by simp)
      have hff : ∀ i, w2.frozen? ⟨w.heap.size + 1 + 1, i, none⟩ = false := fun i => (m2.frozen (a := ⟨w.heap.size + 1 + 1, i, none⟩) (by show w.heap.size + 1 + 1 < _; omega) (by simp)).trans (hfr.out i)
      have f0 := hff 0
      have f1 := hff 1
      have f2 := hff 2
      have hE : MadePost w MA (.returned (.agg #[.slice x1 MA.ranks.length y1, .slice x2 MA.final.length y2, .slice x3 MA.to.length y3])) (((w2.setCell ⟨w.heap.size + 1 + 1, 0, none⟩ (.slice x1 MA.ranks.length y1)).setCell ⟨w.heap.size + 1 + 1, 1, none⟩ (.slice x2 MA.final.length y2)).setCell ⟨w.heap.size + 1 + 1, 2, none⟩ (.slice x3 MA.to.length y3)) := by
        have hMM := (((Mut.refl (fun b => b = w.heap.size + 1 + 1) w2).setCell (p := ⟨w.heap.size + 1 + 1, 0, none⟩) (fun _ => rfl) (.slice x1 MA.ranks.length y1)).setCell (p := ⟨w.heap.size + 1 + 1, 1, none⟩) (fun _ => rfl) (.slice x2 MA.final.length y2)).setCell (p := ⟨w.heap.size + 1 + 1, 2, none⟩) (fun _ => rfl) (.slice x3 MA.to.length y3)
        exact ⟨_, _, _, rfl, (hO.mut hMM (fun k hk e => by omega)).base (by omega), (hfw.out.trans m2).trans' hMM (fun i hi e => by omega)⟩
      replace hE := Lib.hid hE
      clear hcall hff k0 k1 k2 hold
      go_wp2
      exact bodyPost_ret (v := .agg #[.slice x1 MA.ranks.length y1, .slice x2 MA.final.length y2, .slice x3 MA.to.length y3]) (by simp [results, Try.results62, go_sem, r0, r1, r2]) rfl hE.out
end Go.Proofs.Ytdakoccbmeojhaa
