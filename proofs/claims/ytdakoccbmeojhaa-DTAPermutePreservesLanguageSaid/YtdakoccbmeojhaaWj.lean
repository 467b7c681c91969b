/- known returns true in every world. No condition. -/
import Derived.Test.YtdakoccbmeojhaaWi
set_option linter.unusedSimpArgs false
set_option linter.unusedVariables false
set_option maxHeartbeats 400000
namespace Go.Proofs.Ytdakoccbmeojhaa
open Go Go.RowKit Go.PP

def A0 : Au := ⟨[0, 2], [false, true], [[1], [0, 1, 1, 0]]⟩
def leafT : Tr := .node 0 []
def twoT : Tr := .node 1 [leafT, leafT]
def treT : Tr := .node 1 [leafT, twoT]

theorem alpha0 : alphaE [0, 2] = 0 := by
  unfold alphaE
  rw [if_neg (by decide), if_neg, if_pos (by decide)]
  rintro ⟨x, hx, h⟩
  simp at hx
  omega
theorem chk0 : chk A0 = 0 := by
  refine (chk_rest alpha0 (by decide) rfl ?_).2 ?_
  · intro i l k h1 h2
    rcases i with _ | _ | i
    · simp [A0] at h1 h2; subst h1 h2; rfl
    · simp [A0] at h1 h2; subst h1 h2; rfl
    · simp [A0] at h1
  · intro i l h1 s hs
    rcases i with _ | _ | i
    · simp [A0] at h1; subst h1; simp at hs; subst hs; decide
    · simp [A0] at h1; subst h1; simp at hs; rcases hs with rfl | rfl | rfl | rfl <;> decide
    · simp [A0] at h1
theorem right0 (d : Nat) (t : Tr) (h1 : sizeW d t ≤ 4096) (h2 : deepW d t ≤ 256) (h3 : nodesE d [0, 2] t = 0) : rightE d A0.ranks t = 0 := by
  unfold rightE
  rw [if_neg (by show ¬ alphaE [0, 2] ≠ 0; rw [alpha0]; simp), if_neg (by omega), if_neg (by omega)]
  exact h3
theorem run_two : runE 2 A0 twoT = (0, 0) := by
  rw [runE_good chk0 (right0 _ _ (by decide +kernel) (by decide +kernel) (by decide +kernel))]
  rfl
theorem run_tre : runE 3 A0 treT = (1, 0) := by
  rw [runE_good chk0 (right0 _ _ (by decide +kernel) (by decide +kernel) (by decide +kernel))]
  rfl
theorem acc_leaf : acceptsB 1 A0 leafT = true := by
  unfold acceptsB
  rw [runE_good chk0 (right0 _ _ (by decide +kernel) (by decide +kernel) (by decide +kernel))]
  rfl
theorem acc_two : acceptsB 2 A0 twoT = false := by
  unfold acceptsB
  rw [run_two]; rfl

theorem ints_at (W : World) (b : Nat) (xs : List Int) (c : Nat) (hl : xs.length ≤ 1000) (h : ∀ (i : Nat) x, xs[i]? = some x → W.cell? ⟨b, i, none⟩ = some (.int .i64 x)) : Ints (fun _ => False) W (.slice (some ⟨b, 0, none⟩) xs.length c) xs :=
  ⟨some ⟨b, 0, none⟩, c, by simp, by simp; omega, fun i hi => by
    have hi' : i < xs.length := by simpa using hi
    exact ⟨b, 0, .int .i64 xs[i], rfl, id, by simp [hi'], by rw [Nat.zero_add]; exact h i xs[i] (by simp)⟩⟩
theorem bools_at (W : World) (b : Nat) (xs : List Bool) (c : Nat) (hl : xs.length ≤ 1000) (h : ∀ (i : Nat) x, xs[i]? = some x → W.cell? ⟨b, i, none⟩ = some (.bool x)) : Bools (fun _ => False) W (.slice (some ⟨b, 0, none⟩) xs.length c) xs :=
  ⟨some ⟨b, 0, none⟩, c, by simp, by simp; omega, fun i hi => by
    have hi' : i < xs.length := by simpa using hi
    exact ⟨b, 0, .bool xs[i], rfl, id, by simp [hi'], by rw [Nat.zero_add]; exact h i xs[i] (by simp)⟩⟩

theorem box_at (w : World) (b : Nat) (hb : b = w.heap.size) (cs : Array Value) (t i : Nat) (v : Value) (h : cs[i]? = some v) : (w.alloc (.cells cs t)).cell? ⟨b, i, none⟩ = some v := by
  rw [hb]
  have h0 := heap_alloc_new w (.cells cs t)
  simp only [World.cell?]; rw [h0]; exact h
theorem box_keep {w : World} (o : Obj) {a : Addr} {v : Value} (h : w.cell? a = some v) : (w.alloc o).cell? a = some v := ((Mut.refl (fun _ => False) w).alloc o).cell h (by simp)

/-- The cells of the example. -/
structure Kn (B : Nat) (w : World) : Prop where
  a0 : w.cell? ⟨B, 0, none⟩ = some (.int .i64 0)
  a1 : w.cell? ⟨B, 1, none⟩ = some (.int .i64 2)
  b0 : w.cell? ⟨B + 1, 0, none⟩ = some (.bool false)
  b1 : w.cell? ⟨B + 1, 1, none⟩ = some (.bool true)
  c0 : w.cell? ⟨B + 1 + 1, 0, none⟩ = some (.int .i64 1)
  d0 : w.cell? ⟨B + 1 + 1 + 1, 0, none⟩ = some (.int .i64 0)
  d1 : w.cell? ⟨B + 1 + 1 + 1, 1, none⟩ = some (.int .i64 1)
  d2 : w.cell? ⟨B + 1 + 1 + 1, 2, none⟩ = some (.int .i64 1)
  d3 : w.cell? ⟨B + 1 + 1 + 1, 3, none⟩ = some (.int .i64 0)
  e0 : w.cell? ⟨B + 1 + 1 + 1 + 1, 0, none⟩ = some (.slice (some ⟨B + 1 + 1, 0, none⟩) 1 1)
  e1 : w.cell? ⟨B + 1 + 1 + 1 + 1, 1, none⟩ = some (.slice (some ⟨B + 1 + 1 + 1, 0, none⟩) 4 4)
  f : BoxA (B + 1 + 1 + 1 + 1 + 1) (.slice (some ⟨B, 0, none⟩) 2 2) (.slice (some ⟨B + 1, 0, none⟩) 2 2) (.slice (some ⟨B + 1 + 1 + 1 + 1, 0, none⟩) 2 2) w
  g : BoxT (B + 1 + 1 + 1 + 1 + 1 + 1) 0 (.slice none 0 0) w
  h : BoxT (B + 1 + 1 + 1 + 1 + 1 + 1 + 1) 0 (.slice none 0 0) w
  h2 : w.cell? ⟨B + 1 + 1 + 1 + 1 + 1 + 1 + 1, 2, none⟩ = some (.int .i64 0)
  h3 : w.cell? ⟨B + 1 + 1 + 1 + 1 + 1 + 1 + 1, 3, none⟩ = some (.slice none 0 0)
  i : BoxT (B + 1 + 1 + 1 + 1 + 1 + 1 + 1 + 1) 1 (.slice (some ⟨B + 1 + 1 + 1 + 1 + 1 + 1 + 1, 0, none⟩) 2 2) w
theorem Kn.fix {B : Nat} {w w' : World} (h : Kn B w) (m : Fix w w') : Kn B w' :=
  ⟨m.cell h.a0 (by simp), m.cell h.a1 (by simp), m.cell h.b0 (by simp), m.cell h.b1 (by simp), m.cell h.c0 (by simp), m.cell h.d0 (by simp), m.cell h.d1 (by simp), m.cell h.d2 (by simp), m.cell h.d3 (by simp), m.cell h.e0 (by simp), m.cell h.e1 (by simp),
    h.f.fix m, h.g.fix m, h.h.fix m, m.cell h.h2 (by simp), m.cell h.h3 (by simp), h.i.fix m⟩

theorem Kn.aut {B : Nat} {w : World} (h : Kn B w) : AuIn (fun _ => False) w (.slice (some ⟨B, 0, none⟩) 2 2) (.slice (some ⟨B + 1, 0, none⟩) 2 2) (.slice (some ⟨B + 1 + 1 + 1 + 1, 0, none⟩) 2 2) A0 := by
  refine ⟨ints_at w B [0, 2] 2 (by simp) (fun i x hx => ?_), bools_at w (B + 1) [false, true] 2 (by simp) (fun i x hx => ?_), ?_⟩
  · rcases i with _ | _ | i
    · simp at hx; subst hx; exact h.a0
    · simp at hx; subst hx; exact h.a1
    · simp at hx
  · rcases i with _ | _ | i
    · simp at hx; subst hx; exact h.b0
    · simp at hx; subst hx; exact h.b1
    · simp at hx
  · have r1 : Ints (fun _ => False) w (.slice (some ⟨B + 1 + 1, 0, none⟩) 1 1) [1] := ints_at w (B + 1 + 1) [1] 1 (by simp) (fun i x hx => by
      rcases i with _ | i
      · simp at hx; subst hx; exact h.c0
      · simp at hx)
    have r2 : Ints (fun _ => False) w (.slice (some ⟨B + 1 + 1 + 1, 0, none⟩) 4 4) [0, 1, 1, 0] := ints_at w (B + 1 + 1 + 1) [0, 1, 1, 0] 4 (by simp) (fun i x hx => by
      rcases i with _ | _ | _ | _ | i
      · simp at hx; subst hx; exact h.d0
      · simp at hx; subst hx; exact h.d1
      · simp at hx; subst hx; exact h.d2
      · simp at hx; subst hx; exact h.d3
      · simp at hx)
    refine ⟨[.slice (some ⟨B + 1 + 1, 0, none⟩) 1 1, .slice (some ⟨B + 1 + 1 + 1, 0, none⟩) 4 4], ⟨some ⟨B + 1 + 1 + 1 + 1, 0, none⟩, 2, rfl, by simp, fun i hi => ?_⟩, rfl, fun i u xs q1 q2 => ?_⟩
    · rcases i with _ | _ | i
      · exact ⟨_, _, _, rfl, id, rfl, h.e0⟩
      · exact ⟨_, _, _, rfl, id, rfl, h.e1⟩
      · exact absurd hi (by simp)
    · rcases i with _ | _ | i
      · simp [A0] at q1 q2; subst q1 q2; exact r1
      · simp [A0] at q1 q2; subst q1 q2; exact r2
      · simp at q1
theorem leaf_in (w : World) (d : Nat) : TreeIn (fun _ => False) w (d + 1) 0 (.slice none 0 0) leafT := ⟨rfl, none, 0, rfl, by decide, fun i hi => absurd hi (by simp)⟩
theorem Kn.two {B : Nat} {w : World} (h : Kn B w) (d : Nat) : TreeIn (fun _ => False) w (d + 2) 1 (.slice (some ⟨B + 1 + 1 + 1 + 1 + 1 + 1 + 1, 0, none⟩) 2 2) twoT := by
  refine ⟨rfl, some ⟨B + 1 + 1 + 1 + 1 + 1 + 1 + 1, 0, none⟩, 2, rfl, by decide, fun i hi => ?_⟩
  rcases i with _ | _ | i
  · exact ⟨_, _, 0, .slice none 0 0, leafT, rfl, id, rfl, h.h.c0, h.h.c1, leaf_in w d⟩
  · exact ⟨_, _, 0, .slice none 0 0, leafT, rfl, id, rfl, h.h2, h.h3, leaf_in w d⟩
  · exact absurd hi (by simp)
theorem Kn.tre {B b : Nat} {w : World} (h : Kn B w) (k0 : BoxT b 0 (.slice none 0 0) w) (k2 : w.cell? ⟨b, 2, none⟩ = some (.int .i64 1)) (k3 : w.cell? ⟨b, 3, none⟩ = some (.slice (some ⟨B + 1 + 1 + 1 + 1 + 1 + 1 + 1, 0, none⟩) 2 2)) :
    TreeIn (fun _ => False) w 3 1 (.slice (some ⟨b, 0, none⟩) 2 2) treT := by
  refine ⟨rfl, some ⟨b, 0, none⟩, 2, rfl, by decide, fun i hi => ?_⟩
  rcases i with _ | _ | i
  · exact ⟨_, _, 0, .slice none 0 0, leafT, rfl, id, rfl, k0.c0, k0.c1, leaf_in w 1⟩
  · exact ⟨_, _, 1, _, twoT, rfl, id, rfl, k2, k3, h.two 0⟩
  · exact absurd hi (by simp)

theorem kn_start (w : World) : Kn w.heap.size (((((((((w.alloc (.cells #[.int .i64 0, .int .i64 2] 3)).alloc (.cells #[.bool false, .bool true] 4)).alloc (.cells #[.int .i64 1] 3)).alloc (.cells #[.int .i64 0, .int .i64 1, .int .i64 1, .int .i64 0] 3)).alloc
    (.cells #[.slice (some ⟨w.heap.size + 1 + 1, 0, none⟩) 1 1, .slice (some ⟨w.heap.size + 1 + 1 + 1, 0, none⟩) 4 4] 22)).alloc (.cells #[.slice (some ⟨w.heap.size, 0, none⟩) 2 2, .slice (some ⟨w.heap.size + 1, 0, none⟩) 2 2, .slice (some ⟨w.heap.size + 1 + 1 + 1 + 1, 0, none⟩) 2 2] 35)).alloc
    (.cells #[.int .i64 0, .slice none 0 0] 39)).alloc (.cells #[.int .i64 0, .slice none 0 0, .int .i64 0, .slice none 0 0] 39)).alloc (.cells #[.int .i64 1, .slice (some ⟨w.heap.size + 1 + 1 + 1 + 1 + 1 + 1 + 1, 0, none⟩) 2 2] 39)) := by
  refine ⟨?_, ?_, ?_, ?_, ?_, ?_, ?_, ?_, ?_, ?_, ?_, ⟨?_, ?_, ?_⟩, ⟨?_, ?_⟩, ⟨?_, ?_⟩, ?_, ?_, ⟨?_, ?_⟩⟩ <;>
    repeat (first | (refine box_at _ _ ?_ _ _ _ _ rfl; simp; done) | refine box_keep _ ?_)

set_option maxRecDepth 8000 in
set_option maxHeartbeats 8000000 in
theorem known_any (w : World) : Calls Try.prog 15 #[] w (RetPost w (.bool true)) := by
  have e1 := Lib.hid run_two
  have e2 := Lib.hid run_tre
  have e3 := Lib.hid acc_leaf
  have e4 := Lib.hid acc_two
  go_enter Try.func15, Try.ntmps15
  go_wp2_with fail
  have hm := Lib.hid (((((((((((Mut.refl (fun _ => False) w).alloc (.cells #[.int .i64 0, .int .i64 2] 3)).alloc (.cells #[.bool false, .bool true] 4)).alloc (.cells #[.int .i64 1] 3)).alloc (.cells #[.int .i64 0, .int .i64 1, .int .i64 1, .int .i64 0] 3)).alloc
    (.cells #[.slice (some ⟨w.heap.size + 1 + 1, 0, none⟩) 1 1, .slice (some ⟨w.heap.size + 1 + 1 + 1, 0, none⟩) 4 4] 22)).alloc (.cells #[.slice (some ⟨w.heap.size, 0, none⟩) 2 2, .slice (some ⟨w.heap.size + 1, 0, none⟩) 2 2, .slice (some ⟨w.heap.size + 1 + 1 + 1 + 1, 0, none⟩) 2 2] 35)).alloc
    (.cells #[.int .i64 0, .slice none 0 0] 39)).alloc (.cells #[.int .i64 0, .slice none 0 0, .int .i64 0, .slice none 0 0] 39)).alloc (.cells #[.int .i64 1, .slice (some ⟨w.heap.size + 1 + 1 + 1 + 1 + 1 + 1 + 1, 0, none⟩) 2 2] 39)))
  have hK := kn_start w
  replace hK := Lib.hid hK
  generalize ((((((((w.alloc (.cells #[.int .i64 0, .int .i64 2] 3)).alloc (.cells #[.bool false, .bool true] 4)).alloc (.cells #[.int .i64 1] 3)).alloc (.cells #[.int .i64 0, .int .i64 1, .int .i64 1, .int .i64 0] 3)).alloc
    (.cells #[.slice (some ⟨w.heap.size + 1 + 1, 0, none⟩) 1 1, .slice (some ⟨w.heap.size + 1 + 1 + 1, 0, none⟩) 4 4] 22)).alloc (.cells #[.slice (some ⟨w.heap.size, 0, none⟩) 2 2, .slice (some ⟨w.heap.size + 1, 0, none⟩) 2 2, .slice (some ⟨w.heap.size + 1 + 1 + 1 + 1, 0, none⟩) 2 2] 35)).alloc
    (.cells #[.int .i64 0, .slice none 0 0] 39)).alloc (.cells #[.int .i64 0, .slice none 0 0, .int .i64 0, .slice none 0 0] 39)).alloc (.cells #[.int .i64 1, .slice (some ⟨w.heap.size + 1 + 1 + 1 + 1 + 1 + 1 + 1, 0, none⟩) 2 2] 39) = wb at *
  refine (run18_any 2 A0 1 _ _ _ _ twoT wb (hK.out.two 0) hK.out.aut).mono ?_
  unfold RunPost
  rw [e1.out]
  rintro e w1 ⟨rfl, hm1⟩
  have hK1 := Lib.hid (hK.out.fix hm1)
  replace hm := Lib.hid (hm.out.trans hm1)
  obtain ⟨f0, f1, f2⟩ := hK1.out.f
  obtain ⟨g0, g1⟩ := hK1.out.g
  obtain ⟨i0, i1⟩ := hK1.out.i
  clear hm1
  go_wp2_with fail
  have hm2 := (Mut.refl (fun _ => False) w1).alloc (.cells #[.int .i64 0, .slice none 0 0, .int .i64 1, .slice (some ⟨w.heap.size + 1 + 1 + 1 + 1 + 1 + 1 + 1, 0, none⟩) 2 2] 39)
  have hK2 := Lib.hid (hK1.out.fix hm2)
  have hT2 := Lib.hid (hK2.out.tre (b := w1.heap.size) ⟨box_at _ _ rfl _ _ _ _ rfl, box_at _ _ rfl _ _ _ _ rfl⟩ (box_at _ _ rfl _ _ _ _ rfl) (box_at _ _ rfl _ _ _ _ rfl))
  refine (run18_any 3 A0 1 _ _ _ _ treT _ hT2.out hK2.out.aut).mono ?_
  unfold RunPost
  rw [e2.out]
  rintro e w2 ⟨rfl, hm3⟩
  have hK3 := Lib.hid (hK2.out.fix hm3)
  replace hm := Lib.hid ((hm.out.trans hm2).trans hm3)
  obtain ⟨f0, f1, f2⟩ := hK3.out.f
  obtain ⟨g0, g1⟩ := hK3.out.g
  obtain ⟨i0, i1⟩ := hK3.out.i
  clear hm2 hm3 hT2
  go_wp2_with fail
  refine (accepts_any 1 A0 0 _ _ _ _ leafT _ (leaf_in _ 0) hK3.out.aut).mono ?_
  rw [e3.out]
  rintro e w3 ⟨rfl, hm4⟩
  have hK4 := Lib.hid (hK3.out.fix hm4)
  replace hm := Lib.hid (hm.out.trans hm4)
  obtain ⟨f0, f1, f2⟩ := hK4.out.f
  obtain ⟨i0, i1⟩ := hK4.out.i
  clear hm4
  go_wp2_with fail
  refine (accepts_any 2 A0 1 _ _ _ _ twoT _ (hK4.out.two 0) hK4.out.aut).mono ?_
  rw [e4.out]
  rintro e w4 ⟨rfl, hm5⟩
  replace hm := Lib.hid (hm.out.trans hm5)
  clear hm5
  go_wp2
  go_ret
  exact ⟨rfl, hm.out⟩
end Go.Proofs.Ytdakoccbmeojhaa
