/- known returns true in every world. No condition. -/
import Derived.Test.YtojfpobgncapjaaWi
set_option linter.unusedSimpArgs false
set_option linter.unusedVariables false
set_option maxHeartbeats 400000
namespace Go.Proofs.Ytojfpobgncapjaa
open Go Go.RowKit Go.PP

/-! ### known -/
theorem union_at (w : World) (p u n : Nat) (R R' : List Int) (a b x y : Nat) (hP : Part w p u n R) (ha : a < n) (hb : b < n) (hx : R[a]? = some (x : Int)) (hy : R[b]? = some (y : Int)) (hR : merged R (max x y) (min x y) = R') (d : Bool) (hd : ((x : Int) != (y : Int)) = d) :
    Calls Try.prog 21 #[.pointer (some ⟨p, 0, none⟩), .int .i64 a, .int .i64 b] w fun e w' => e = .returned (.tuple #[.bool d, .int .i64 0]) ∧ Part w' p u n R' ∧ Mut (· = u) w w' := by
  refine (union_any a b w p u n R hP).mono ?_
  rintro e w' (⟨_, x', y', h1, h2, rfl, hP', hm⟩ | ⟨h, _⟩)
  · simp only [Int.toNat_natCast] at h1 h2
    obtain rfl : x = x' := some_nat_inj (hx.symm.trans h1)
    obtain rfl : y = y' := some_nat_inj (hy.symm.trans h2)
    exact ⟨by rw [hd], by rw [← hR]; exact hP', hm⟩
  · simp [thereB, ha, hb] at h

theorem new_cell (w : World) (b : Nat) (hb : b = w.heap.size) (cs : List Value) (e : TypeId) (i : Nat) (h : i < cs.length) : (w.alloc (.cells cs.toArray e)).cell? ⟨b, i, none⟩ = cs[i]? := by
  have h := heap_alloc_new w (.cells cs.toArray e)
  simp only [World.cell?, hb]
  rw [h]; simp
theorem row_new (w : World) (b : Nat) (hb : b = w.heap.size) (xs : List Int) (c : Nat) (hl : xs.length ≤ 1000) : Ints (fun _ => False) (w.alloc (.cells (xs.map (Value.int .i64)).toArray 3)) (.slice (some ⟨b, 0, none⟩) xs.length c) xs :=
  ⟨some ⟨b, 0, none⟩, c, by simp, by simp; omega, fun i hi => ⟨b, 0, (xs.map (Value.int .i64))[i], rfl, id, by simp [hi], by
    rw [Nat.zero_add, new_cell w b hb _ _ i hi]; simp [hi]⟩⟩
theorem rows_new (w : World) (b : Nat) (hb : b = w.heap.size) (vs : List Value) (xss : List (List Int)) (c : Nat) (hl : vs.length ≤ 1000) (hlen : vs.length = xss.length)
    (hr : ∀ (i : Nat) u xs, vs[i]? = some u → xss[i]? = some xs → Ints (fun _ => False) w u xs) : IntsL (fun _ => False) (w.alloc (.cells vs.toArray 24)) (.slice (some ⟨b, 0, none⟩) vs.length c) xss :=
  ⟨vs, ⟨some ⟨b, 0, none⟩, c, rfl, by omega, fun i hi => ⟨b, 0, vs[i], rfl, id, by simp [hi], by rw [Nat.zero_add, new_cell w b hb _ _ i hi]; simp [hi]⟩⟩, hlen,
    fun i u xs h1 h2 => (hr i u xs h1 h2).mut ((Mut.refl (fun _ => False) w).alloc _) (by simp)⟩
theorem intsAlloc {w : World} {v : Value} {xs : List Int} (h : Ints (fun _ => False) w v xs) (o : Obj) : Ints (fun _ => False) (w.alloc o) v xs := h.mut ((Mut.refl (fun _ => False) w).alloc o) (by simp)

theorem SliceIn.fresh_ne (w : World) (b : Nat) (hb : b = w.heap.size) (xs : List Int) (c : Nat) (hl : xs.length ≤ 1000) (u : Nat) (hu : u < w.heap.size) : Ints (· = u) (w.alloc (.cells (xs.map (Value.int .i64)).toArray 3)) (.slice (some ⟨b, 0, none⟩) xs.length c) xs :=
  ⟨some ⟨b, 0, none⟩, c, by simp, by simp; omega, fun i hi => ⟨b, 0, (xs.map (Value.int .i64))[i], rfl, by omega, by simp [hi], by
    rw [Nat.zero_add, new_cell w b hb _ _ i hi]; simp [hi]⟩⟩

theorem lit3 (w : World) : IntsL (fun _ => False) ((((w.alloc (Obj.cells #[Value.int .i64 0] 3)).alloc (Obj.cells #[Value.int .i64 1, Value.int .i64 3, Value.int .i64 4] 3)).alloc (Obj.cells #[Value.int .i64 2] 3)).alloc
    (Obj.cells #[Value.slice (some ⟨w.heap.size, 0, none⟩) 1 1, Value.slice (some ⟨w.heap.size + 1, 0, none⟩) 3 3, Value.slice (some ⟨w.heap.size + 1 + 1, 0, none⟩) 1 1] 24))
    (.slice (some ⟨w.heap.size + 1 + 1 + 1, 0, none⟩) 3 3) [[0], [1, 3, 4], [2]] := by
  refine rows_new _ _ (by simp) [Value.slice (some ⟨w.heap.size, 0, none⟩) 1 1, Value.slice (some ⟨w.heap.size + 1, 0, none⟩) 3 3, Value.slice (some ⟨w.heap.size + 1 + 1, 0, none⟩) 1 1] _ 3 (by simp) (by simp) ?_
  intro i u xs h1 h2
  rcases i with _ | _ | _ | i
  · simp at h1 h2; subst h1 h2; exact intsAlloc (intsAlloc (row_new w _ rfl [0] 1 (by simp)) _) _
  · simp at h1 h2; subst h1 h2; exact intsAlloc (row_new (w.alloc (Obj.cells #[Value.int .i64 0] 3)) _ (by simp) [1, 3, 4] 3 (by simp)) _
  · simp at h1 h2; subst h1 h2; exact row_new ((w.alloc (Obj.cells #[Value.int .i64 0] 3)).alloc (Obj.cells #[Value.int .i64 1, Value.int .i64 3, Value.int .i64 4] 3)) _ (by simp) [2] 1 (by simp)
  · simp at h1

theorem lit4 (w : World) : IntsL (fun _ => False) (((((w.alloc (Obj.cells #[Value.int .i64 0] 3)).alloc (Obj.cells #[Value.int .i64 1, Value.int .i64 3] 3)).alloc (Obj.cells #[Value.int .i64 2] 3)).alloc (Obj.cells #[Value.int .i64 4] 3)).alloc
    (Obj.cells #[Value.slice (some ⟨w.heap.size, 0, none⟩) 1 1, Value.slice (some ⟨w.heap.size + 1, 0, none⟩) 2 2, Value.slice (some ⟨w.heap.size + 1 + 1, 0, none⟩) 1 1, Value.slice (some ⟨w.heap.size + 1 + 1 + 1, 0, none⟩) 1 1] 24))
    (.slice (some ⟨w.heap.size + 1 + 1 + 1 + 1, 0, none⟩) 4 4) [[0], [1, 3], [2], [4]] := by
  refine rows_new _ _ (by simp) [Value.slice (some ⟨w.heap.size, 0, none⟩) 1 1, Value.slice (some ⟨w.heap.size + 1, 0, none⟩) 2 2, Value.slice (some ⟨w.heap.size + 1 + 1, 0, none⟩) 1 1, Value.slice (some ⟨w.heap.size + 1 + 1 + 1, 0, none⟩) 1 1] _ 4 (by simp) (by simp) ?_
  intro i u xs h1 h2
  rcases i with _ | _ | _ | _ | i
  · simp at h1 h2; subst h1 h2; exact intsAlloc (intsAlloc (intsAlloc (row_new w _ rfl [0] 1 (by simp)) _) _) _
  · simp at h1 h2; subst h1 h2; exact intsAlloc (intsAlloc (row_new (w.alloc (Obj.cells #[Value.int .i64 0] 3)) _ (by simp) [1, 3] 2 (by simp)) _) _
  · simp at h1 h2; subst h1 h2; exact intsAlloc (row_new ((w.alloc (Obj.cells #[Value.int .i64 0] 3)).alloc (Obj.cells #[Value.int .i64 1, Value.int .i64 3] 3)) _ (by simp) [2] 1 (by simp)) _
  · simp at h1 h2; subst h1 h2; exact row_new (((w.alloc (Obj.cells #[Value.int .i64 0] 3)).alloc (Obj.cells #[Value.int .i64 1, Value.int .i64 3] 3)).alloc (Obj.cells #[Value.int .i64 2] 3)) _ (by simp) [4] 1 (by simp)
  · simp at h1

theorem knownBy : IsBy [0, 1, 2, 1, 1] [0, 0, 0, 0, 7] 5 [0, 1, 2, 1, 4] := by
  refine ⟨rfl, fun i hi => ?_⟩
  rcases i with _ | _ | _ | _ | _ | i
  · exact ⟨0, rfl, by show _ ∧ _ ∧ _ ∧ _; decide⟩
  · exact ⟨1, rfl, by show _ ∧ _ ∧ _ ∧ _; decide⟩
  · exact ⟨2, rfl, by show _ ∧ _ ∧ _ ∧ _; decide⟩
  · exact ⟨1, rfl, by show _ ∧ _ ∧ _ ∧ _; decide⟩
  · exact ⟨4, rfl, by show _ ∧ _ ∧ _ ∧ _; decide⟩
  · omega

theorem known_any (w : World) : Calls Try.prog 12 #[] w (TruePost w) := by
  have hnew : Calls Try.prog 19 #[.int .i64 5] w (NewPost w 5) := new_any 5 w (by omega)
  go_enter Try.func12, Try.ntmps12
  go_wp2_with fail
  refine hnew.mono ?_
  rintro e w1 ⟨p, u, rfl, hp, hu, hP1, hm1⟩
  have hMu : ∀ (a b : World), Mut (fun _ => False) w a → Mut (· = u) a b → Mut (fun _ => False) w b := fun a b h1 h2 => h1.trans' h2 (fun i hi e => by omega)
  replace hMu := Lib.hid hMu
  go_wp2_with fail
  have h1 : Calls Try.prog 21 #[.pointer (some ⟨p, 0, none⟩), .int .i64 3, .int .i64 1] w1 (fun e w' => e = .returned (.tuple #[.bool true, .int .i64 0]) ∧ Part w' p u 5 [0, 1, 2, 1, 4] ∧ Mut (· = u) w1 w') := union_at w1 p u 5 (iota 5) [0, 1, 2, 1, 4] 3 1 3 1 hP1 (by omega) (by omega) (by decide) (by decide) (by decide) true (by decide)
  refine h1.mono ?_
  rintro e w2 ⟨rfl, hP2, hm2⟩
  replace hm2 := hMu.out _ _ hm1 hm2
  clear hnew hm1 hP1 h1
  go_wp2_with fail
  have h1 : Calls Try.prog 21 #[.pointer (some ⟨p, 0, none⟩), .int .i64 1, .int .i64 4] w2 (fun e w' => e = .returned (.tuple #[.bool true, .int .i64 0]) ∧ Part w' p u 5 [0, 1, 2, 1, 1] ∧ Mut (· = u) w2 w') := union_at w2 p u 5 [0, 1, 2, 1, 4] [0, 1, 2, 1, 1] 1 4 1 4 hP2 (by omega) (by omega) (by decide) (by decide) (by decide) true (by decide)
  refine h1.mono ?_
  rintro e w3 ⟨rfl, hP3, hm3⟩
  replace hm3 := hMu.out _ _ hm2 hm3
  clear hm2 hP2 h1
  go_wp2_with fail
  have h1 : Calls Try.prog 21 #[.pointer (some ⟨p, 0, none⟩), .int .i64 4, .int .i64 3] w3 (fun e w' => e = .returned (.tuple #[.bool false, .int .i64 0]) ∧ Part w' p u 5 [0, 1, 2, 1, 1] ∧ Mut (· = u) w3 w') := union_at w3 p u 5 [0, 1, 2, 1, 1] [0, 1, 2, 1, 1] 4 3 1 1 hP3 (by omega) (by omega) (by decide) (by decide) (by decide) false (by decide)
  refine h1.mono ?_
  rintro e w4 ⟨rfl, hP4, hm4⟩
  replace hm4 := hMu.out _ _ hm3 hm4
  clear hm3 hP3 h1
  go_wp2_with fail
  refine (blocks_any w4 p u 5 [0, 1, 2, 1, 1] hP4).mono ?_
  rintro e w5 ⟨v, rfl, hv, hP5, hm5⟩
  replace hm5 := hMu.out _ _ hm4 hm5
  have hv := hv (fun _ => False) (by simp)
  rw [show rowsTo [0, 1, 2, 1, 1] 5 = [[0], [1, 3, 4], [2]] from by decide] at hv
  clear hm4 hP4
  replace hv := Lib.hid hv
  replace hP5 := Lib.hid hP5
  replace hm5 := Lib.hid hm5
  go_wp2_with fail
  refine (alike_true (fun _ => False) v _ [[0], [1, 3, 4], [2]] _ (by exact hv.out.mut (((((Mut.refl (fun _ => False) w5).alloc _).alloc _).alloc _).alloc _) (by simp)) (lit3 w5)).mono ?_
  rintro e w6 ⟨rfl, hm6⟩
  have hP6 := Lib.hid (hP5.out.mut ((((((Mut.refl (fun _ => False) w5).alloc _).alloc _).alloc _).alloc _).trans hm6) (by simp) (by simp))
  have hm7 := Lib.hid ((((((hm5.out).alloc _).alloc _).alloc _).alloc _).trans hm6)
  have hulb : u < w6.heap.size := hP6.out.ult
  clear hv hP5 hm5 hm6
  go_wp2_with fail
  have hr5 := row_new w6 _ rfl [0, 0, 0, 0, 7] 5 (by simp)
  refine (split_any (· = u) _ [0, 0, 0, 0, 7] _ p u 5 [0, 1, 2, 1, 1] (by exact hP6.out.mut ((Mut.refl (fun _ => False) w6).alloc _) (by simp) (by simp)) (by exact SliceIn.fresh_ne w6 _ rfl [0, 0, 0, 0, 7] 5 (by simp) u hulb) rfl (fun i x hx => by rcases i with _ | _ | _ | _ | _ | i <;> simp at hx <;> subst hx <;> decide)).mono ?_
  rintro e w8 (⟨h, _⟩ | ⟨_, v8, out, rfl, hv8, hby, hP8, hm8⟩)
  · simp at h
  obtain rfl : out = [0, 1, 2, 1, 4] := hby.unique knownBy
  have hMv : ∀ (a b : World), Mut (fun _ => False) w a → Mut (fun b => b = u ∨ b = p) a b → Mut (fun _ => False) w b := fun a b h1 h2 => h1.trans' h2 (fun i hi e => by omega)
  have hm9 := Lib.hid (hMv _ _ (hm7.out.alloc _) hm8)
  replace hP8 := Lib.hid hP8
  have hszw := hm7.out.size
  clear hP6 hm7 hm8 hr5 hby
  simp at hv8
  go_wp2_with fail
  refine (blocks_any w8 p v8 5 [0, 1, 2, 1, 4] hP8.out).mono ?_
  rintro e w9 ⟨vv, rfl, hvv, hP9, hm10⟩
  have hvv := hvv (fun _ => False) (by simp)
  rw [show rowsTo [0, 1, 2, 1, 4] 5 = [[0], [1, 3], [2], [4]] from by decide] at hvv
  have hm11 := Lib.hid (hm9.out.trans' hm10 (fun i hi e => by omega))
  replace hvv := Lib.hid hvv
  clear hm9 hP8 hP9 hm10
  go_wp2_with fail
  refine (alike_true (fun _ => False) vv _ [[0], [1, 3], [2], [4]] _ (by exact hvv.out.mut ((((((Mut.refl (fun _ => False) w9).alloc _).alloc _).alloc _).alloc _).alloc _) (by simp)) (lit4 w9)).mono ?_
  rintro e w10 ⟨rfl, hm12⟩
  have hmE := Lib.hid (((((((hm11.out).alloc _).alloc _).alloc _).alloc _).alloc _).trans hm12)
  clear hm11 hm12
  go_wp2
  go_ret
  exact ⟨rfl, hmE.out⟩
end Go.Proofs.Ytojfpobgncapjaa
