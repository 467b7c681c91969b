/- A machine over data: append to a slice that is full gives a new one. No condition. -/
import Derived.Test.YtichhfbkhnimmaaXMs
import Derived.Lib.UnsafeStr

set_option linter.unusedSimpArgs false
set_option linter.unusedVariables false
set_option linter.unusedSectionVars false
set_option maxHeartbeats 400000
namespace Go.Dm
open Go Go.RowKit Go.PP
variable [GlobW] [Rnd]
section
variable {P : Program} {N : Nat} {dst : Option Tmp} {ty : TypeId} {pos : String} {af : Array Edge} {gd : Option (Nat × Bool)}
theorem run_appendF {w : World} (t xt ty e : TypeId) {z : Value} {size bytes : Nat} (ht : P.underlying t = some (.slice e)) (hinfo : (P.info? e).map (fun i => (i.zero, i.size, i.bytes)) = some (some z, size, bytes)) (hzs : z.cells.size = size) (hsz : 0 < size)
    (ad : Option Addr) (n : Nat) (cs : List Value) (hcs : cs.length = n * size) (hnil : ad = none → n = 0) (hc : ∀ a, ad = some a → ∀ j u, cs[j]? = some u → w.cell? (a.add j) = some u) (x : Value) (m : Nat) (news : List Value) (hs : Src P w xt size m x news) (hl : news.length = m * size)
    (hm : 0 < m) (hby : (n + m) * bytes ≤ 140737488355328) (hbp : 0 < bytes) :
    ∃ cap, n + m ≤ cap ∧ cap ≤ maxLen ∧ (Builtin.append_ #[t, xt] ty #[.slice ad n n, x]).run P w = .ok (.slice (some ⟨w.heap.size, 0, none⟩) (n + m) cap) (w.drew.alloc (.cells (cs.toArray ++ news.toArray ++ Builtin.zeroCells z.cells (cap - (n + m))) e)) := by
  obtain ⟨i, hi, hz, hsize, hbytes⟩ := info_parts hinfo
  have hn : n + m ≤ 140737488355328 := Nat.le_trans (Nat.le_mul_of_pos_right _ hbp) hby
  subst hsize; subst hbytes
  have hf1 := hs.fst w.drew rfl
  have hl0 := hs.len w
  have hfo : (Builtin.firstCells i.size n (.slice ad n n)).run P w.drew = .ok cs.toArray w.drew := by
    cases ad with
    | none =>
      have h0 := hnil rfl
      subst h0
      have : cs = [] := List.eq_nil_of_length_eq_zero (by simpa using hcs)
      subst this
      simp [Builtin.firstCells]
    | some a => exact run_firstCells_some (P := P) w.drew i.size n a n n cs hcs (fun j u hu => by rw [World.cell?_of_block (w := w) (by rfl)]; exact hc a rfl j u hu)
  have hn' : ¬ (n + m ≤ n) := by omega
  have h63' : ¬ (9223372036854775807 < ((n : Int) + (m : Int))) := by omega
  have h48' : ¬ (281474976710656 < Builtin.nextslicecap (n + m) n * i.bytes) := by have := growslice_fits (old := n) (need := n + m) (by omega) hby; omega
  refine ⟨grownCap w (n + m) n e, grownCap_ge w (n + m) n e, grownCap_le_maxLen w (n + m) n e (by unfold maxLen; omega), ?_⟩
  rcases hs.ty with ⟨e2, hty⟩ | hty
  all_goals
    simp [Builtin.append_, run_underlying ht, run_underlying hty, sizeOf, typeInfo, zeroValue, hi, hz, hl0, hm, show ¬ m = 0 by omega, h63', h48', Question.forced, hf1, hfo, newRow, grownCap]
    rw [if_neg hn']
    congr 3
    apply Array.ext'
    simp [List.append_assoc]
theorem T.appendSl {e n L m bytes : Nat} {z : Value} {f : Bool} {cs ds : List D} {dy : D} (t x y) (ht : P.underlying t = some (.slice e)) (hinfo : (P.info? e).map (fun i => (i.zero, i.size, i.bytes)) = some (some z, n, bytes)) (hzs : z.cells.size = n) (hsz : 0 < n) (hbp : 0 < bytes)
    (hle : Le dy (.sl f n m ds)) (hby : (L + m) * bytes ≤ 140737488355328) :
    Tri P N ⟨dst, .call { callee := .builtin .append, args := #[x, y], argTypes := #[t, t] }, ty, pos, af, gd⟩ [(x, .sl true n L cs), (y, dy)] [] (.sl false n (L + m) (cs ++ ds)) [] := Tri.run fun M w G ρ hM hv => by
  have hvx := hv.1
  have hvy := hle _ _ _ _ hM hv.2.1
  simp only [Rep] at hvx hvy
  obtain ⟨ax, cx, x1, x2, x3, x4, x5, x6⟩ := hvx
  obtain ⟨ay, cy, y1, y2, y3, y4, y5, y6⟩ := hvy
  have hcx := x3 trivial
  subst hcx
  obtain ⟨us, u1, u2, u3⟩ : ∃ us : List Value, RepL M w none cs us ∧ (ax = none → cx = 0) ∧ ∀ a, ax = some a → ∀ j u, us[j]? = some u → w.cell? (a.add j) = some u := by
    rcases x6 with x6 | ⟨b, off, rfl, x7, x8⟩
    · have h0 : cs = [] := List.eq_nil_of_length_eq_zero (by rw [x4]; exact x6)
      subst h0
      refine ⟨[], by simp only [RepL], fun _ => ?_, fun a _ j u h => by simp at h⟩
      rcases Nat.mul_eq_zero.1 x6 with h | h
      · exact h
      · omega
    · obtain ⟨us, q1, q2⟩ := RepC.vals x8
      exact ⟨us, q1, (fun h => by cases h), fun a ha j u hj => by cases ha; rw [add_off]; exact q2 j u hj⟩
  obtain ⟨news, n1, n2, n3⟩ : ∃ news : List Value, RepL M w none ds news ∧ (ay = none → news = []) ∧ ∀ a, ay = some a → ∀ j u, news[j]? = some u → w.cell? (a.add j) = some u := by
    rcases y6 with r6 | ⟨b, off, rfl, r7, r8⟩
    · have hds : ds = [] := List.eq_nil_of_length_eq_zero (by rw [y4]; exact r6)
      subst hds
      exact ⟨[], by simp only [RepL], fun _ => rfl, fun a _ j u h => by simp at h⟩
    · obtain ⟨news, q1, q2⟩ := RepC.vals r8
      exact ⟨news, q1, (fun h => by cases h), fun a ha j u hj => by cases ha; rw [add_off]; exact q2 j u hj⟩
  have hln : news.length = m * n := by rw [← n1.length]; exact y4
  have hlu : us.length = cx * n := by rw [← u1.length]; exact x4
  have hsrc : Src P w t n m (.slice ay m cy) news := Src.sl (c := cy) ht hln n2 n3
  by_cases hm : m = 0
  · subst hm
    have hnn : news = [] := List.eq_nil_of_length_eq_zero (by simpa using hln)
    have hdd : ds = [] := List.eq_nil_of_length_eq_zero (by simpa using y4)
    subst hnn; subst hdd
    have hl0 := hsrc.len w
    have hf0 := hsrc.fst w rfl
    obtain ⟨i, hi, hz, hsize, hbytes⟩ := info_parts hinfo
    subst hsize
    refine ⟨.slice ax cx cx, w, run_app x1 y1 ?_, Mut.refl _ w, ?_⟩
    · cases ax with
      | none => simp [Builtin.append_, run_underlying ht, sizeOf, typeInfo, hi, hl0, hf0]
      | some a => simp [Builtin.append_, run_underlying ht, sizeOf, typeInfo, hi, hl0, hf0, storeCells]
    · simp only [Rep, List.append_nil, Nat.add_zero]
      exact ⟨ax, cx, rfl, Nat.le_refl _, fun e => (by cases e), x4, x5, x6⟩
  · obtain ⟨cap, hcap, -, hr⟩ := run_appendF (P := P) t t ty e ht hinfo hzs hsz ax cx us hlu u2 u3 _ m news hsrc hln (by omega) hby hbp
    have hn : cx + m ≤ 140737488355328 := Nat.le_trans (Nat.le_mul_of_pos_right _ hbp) hby
    have hfx : Fix w (w.drew.alloc (.cells (us.toArray ++ news.toArray ++ Builtin.zeroCells z.cells (cap - (cx + m))) e)) := (Mut.refl _ w).drew.alloc _
    refine ⟨_, _, run_app x1 y1 hr, hfx, ?_⟩
    simp only [Rep]
    refine ⟨_, cap, rfl, hcap, fun e => (by cases e), by rw [List.length_append, x4, y4, Nat.add_mul], by omega, .inr ⟨w.heap.size, 0, rfl, fun h => by have := hM _ h; omega, RepC.of fun i d hd => ?_⟩⟩
    obtain ⟨u, hu, hr'⟩ := ((RepL.append u1 n1).fix hfx).get i hd
    refine ⟨u, ?_, hr'⟩
    have hi := (List.getElem?_eq_some_iff.1 hu).1
    rw [Nat.zero_add]
    have hb : (w.drew.alloc (.cells (us.toArray ++ news.toArray ++ Builtin.zeroCells z.cells (cap - (cx + m))) e)).heap[w.heap.size]? = some (.cells (us.toArray ++ news.toArray ++ Builtin.zeroCells z.cells (cap - (cx + m))) e) := heap_alloc_new w.drew _
    simp only [World.cell?, hb]
    have hi2 : i < (us.toArray ++ news.toArray).size := by simpa using hi
    simp only [Option.isSome_none, Bool.false_eq_true, if_false]
    rw [Array.getElem?_append_left hi2]
    simpa using hu
end
end Go.Dm

set_option linter.unusedSimpArgs false
set_option linter.unusedVariables false
set_option linter.unusedSectionVars false
set_option maxHeartbeats 400000
namespace Go.Dm
open Go Go.RowKit Go.PP
variable [GlobW] [Rnd]
section
variable {P : Program} {N : Nat} {dst : Option Tmp} {ty : TypeId} {pos : String} {af : Array Edge} {gd : Option (Nat × Bool)}
end
end Go.Dm

set_option linter.unusedSimpArgs false
set_option linter.unusedVariables false
set_option linter.unusedSectionVars false
set_option maxHeartbeats 400000
namespace Go.Dm
open Go Go.RowKit Go.PP
variable [GlobW] [Rnd]
section
variable {P : Program} {N : Nat} {dst : Option Tmp} {ty : TypeId} {pos : String} {af : Array Edge} {gd : Option (Nat × Bool)}
end
end Go.Dm

set_option linter.unusedSimpArgs false
set_option linter.unusedVariables false
set_option linter.unusedSectionVars false
set_option maxHeartbeats 400000
namespace Go.Dm
open Go Go.RowKit Go.PP
variable [GlobW] [Rnd]
section
variable {P : Program} {N : Nat} {dst : Option Tmp} {ty : TypeId} {pos : String} {af : Array Edge} {gd : Option (Nat × Bool)}
end
class MpC (cs : List D) (id : outParam Nat) (en : outParam Ent) : Prop where
  vl : ∀ lp : Sg, fnd lp id = some (some en) → VlL lp cs cs
  vs : ∀ σ σ' : Sg, lkE σ id = some en → lkE σ' id = some en → VsL σ σ' cs cs
theorem MpC.vs' {cs : List D} {id : Nat} {en : Ent} [h : MpC cs id en] {σ σ' : Sg} (k : lkE σ id = some en) (k' : lkE σ' id = some en) : VsL σ σ' cs cs := h.vs σ σ' k k'
end Go.Dm
