/- Lemmas on worlds: what a step leaves as it was; slices that read as lists; append on a row of the call own. No condition. -/
import Derived.WalkKit
import Derived.LoopTactic
import Derived.Outline
import Derived.Deep.QuietTactic
import Derived.BigQuiet
import Derived.Lib.Hide
import Derived.Deep.RegionHeld3
import Derived.Laws.EntriesVeiled
import Derived.WalkSpells
import Derived.WalkLawsBesides

set_option linter.unusedSimpArgs false
set_option linter.unusedVariables false
namespace Go.PP
open Go Go.RowKit
structure Mut (S : Nat → Prop) (w w' : World) : Prop where
  os : w'.os = w.os
  tape : w'.tape = w.tape
  output : w'.output = w.output
  size : w.heap.size ≤ w'.heap.size
  block : ∀ k, k < w.heap.size → ¬ S k → w'.heap[k]? = w.heap[k]?
theorem Mut.refl (S : Nat → Prop) (w : World) : Mut S w w := ⟨rfl, rfl, rfl, Nat.le_refl _, fun _ _ _ => rfl⟩
theorem Mut.trans {S : Nat → Prop} {a b c : World} (h : Mut S a b) (k : Mut S b c) : Mut S a c :=
  ⟨k.os.trans h.os, k.tape.trans h.tape, k.output.trans h.output, Nat.le_trans h.size k.size,
   fun i hi hs => (k.block i (Nat.lt_of_lt_of_le hi h.size) hs).trans (h.block i hi hs)⟩
theorem Mut.trans' {S S' : Nat → Prop} {a b c : World} (h : Mut S a b) (k : Mut S' b c) (hs : ∀ i, i < a.heap.size → S' i → S i) : Mut S a c :=
  ⟨k.os.trans h.os, k.tape.trans h.tape, k.output.trans h.output, Nat.le_trans h.size k.size,
   fun i hi hn => (k.block i (Nat.lt_of_lt_of_le hi h.size) (fun h' => hn (hs i hi h'))).trans (h.block i hi hn)⟩
theorem Mut.mono {S S' : Nat → Prop} {a b : World} (h : Mut S a b) (hs : ∀ i, i < a.heap.size → S i → S' i) : Mut S' a b :=
  ⟨h.os, h.tape, h.output, h.size, fun i hi hn => h.block i hi (fun h' => hn (hs i hi h'))⟩
theorem Mut.drew {S : Nat → Prop} {a w : World} (h : Mut S a w) : Mut S a w.drew := ⟨h.os, h.tape, h.output, h.size, h.block⟩
theorem Mut.alloc {S : Nat → Prop} {a w : World} (h : Mut S a w) (o : Obj) : Mut S a (w.alloc o) :=
  h.trans ⟨rfl, rfl, rfl, by simp, fun k hk _ => Below.heap_alloc _ _ _ hk⟩
theorem Mut.setCell {S : Nat → Prop} {a w : World} (h : Mut S a w) {p : Addr} (hp : p.block < a.heap.size → S p.block) (u : Value) : Mut S a (w.setCell p u) :=
  ⟨h.os, h.tape, h.output, by simpa [World.setCell] using h.size, fun k hk hn => by
    by_cases e : k = p.block
    · subst e; exact absurd (hp hk) hn
    · rw [Below.heap_setCell _ _ _ _ e]; exact h.block k hk hn⟩
theorem Mut.below {w w' : World} (h : Mut (fun _ => False) w w') : Below w.heap.size w w' := ⟨h.os, h.tape, h.output, h.size, fun k hk => h.block k hk id⟩
theorem Mut.cell {S : Nat → Prop} {w w' : World} (h : Mut S w w') {a : Addr} {v : Value} (hc : w.cell? a = some v) (hs : ¬ S a.block) : w'.cell? a = some v :=
  (World.cell?_of_block (h.block a.block (World.block_lt_of_cell? w a hc) hs)).trans hc
theorem Mut.heap {S : Nat → Prop} {w w' : World} (h : Mut S w w') {k : Nat} {o : Obj} (hc : w.heap[k]? = some o) (hs : ¬ S k) : w'.heap[k]? = some o :=
  (h.block k (Array.getElem?_eq_some_iff.1 hc).1 hs).trans hc
theorem Mut.grown {S : Nat → Prop} {a w w' : World} {row : Option Nat} (h : Mut S a w) (hg : w.grownBy w' row) (hr : ∀ k, row = some k → k < a.heap.size → S k) : Mut S a w' :=
  h.trans' (S' := fun k => row = some k) ⟨hg.os, hg.tape, hg.output, hg.size, fun k hk hn => hg.block k hk (fun e => hn e.symm)⟩ (fun i hi e => hr i e hi)
theorem ownsRow_mut {w w' : World} {S : Nat → Prop} {B : Nat} {e : TypeId} {sz : Nat} {v : Value} {n : Nat} {cs : List Value} (h : w.ownsRow B e sz v n cs) (m : Mut S w w') (hs : ∀ k, v.ownBlock = some k → ¬ S k) : w'.ownsRow B e sz v n cs := by
  refine ⟨h.1, ?_⟩
  rcases h.2 with hn | ⟨g, cap, cur, rfl, hb, hgg, rest⟩
  · exact .inl hn
  · exact .inr ⟨g, cap, cur, rfl, hb, m.heap hgg (hs g rfl), rest⟩
theorem cell_new1 (w : World) (u : Value) (e : TypeId) : (w.alloc (.cells #[u] e)).cell? ⟨w.heap.size, 0, none⟩ = some u := by
  have h := heap_alloc_new w (.cells #[u] e)
  simp only [World.cell?]
  rw [h]
  rfl
def SliceIn (M : Nat → Prop) (w : World) (v : Value) (cs : List Value) : Prop :=
  ∃ a c, v = .slice a cs.length c ∧ cs.length ≤ 9223372036854775807 ∧
    ∀ i, i < cs.length → ∃ b off u, a = some ⟨b, off, none⟩ ∧ ¬ M b ∧ cs[i]? = some u ∧ w.cell? ⟨b, off + i, none⟩ = some u
theorem SliceIn.mut {M S : Nat → Prop} {w w' : World} {v : Value} {cs : List Value} (h : SliceIn M w v cs) (m : Mut S w w') (hs : ∀ b, b < w.heap.size → S b → M b) : SliceIn M w' v cs := by
  obtain ⟨a, c, h1, h2, h3⟩ := h
  refine ⟨a, c, h1, h2, fun i hi => ?_⟩
  obtain ⟨b, off, u, q1, q2, q3, q4⟩ := h3 i hi
  exact ⟨b, off, u, q1, q2, q3, m.cell q4 (fun hb => q2 (hs _ (World.block_lt_of_cell? w _ q4) hb))⟩
theorem SliceIn.mono {M M' : Nat → Prop} {w : World} {v : Value} {cs : List Value} (h : SliceIn M w v cs) (hM : ∀ b, b < w.heap.size → M' b → M b) : SliceIn M' w v cs := by
  obtain ⟨a, c, h1, h2, h3⟩ := h
  refine ⟨a, c, h1, h2, fun i hi => ?_⟩
  obtain ⟨b, off, u, q1, q2, q3, q4⟩ := h3 i hi
  exact ⟨b, off, u, q1, fun hb => q2 (hM b (World.block_lt_of_cell? w _ q4) hb), q3, q4⟩
theorem SliceIn.nil (M : Nat → Prop) (w : World) : SliceIn M w (.slice none 0 0) [] := ⟨none, 0, rfl, by simp, fun i hi => absurd hi (by simp)⟩
theorem SliceIn.len {M : Nat → Prop} {w : World} {v : Value} {cs : List Value} (h : SliceIn M w v cs) : cs.length ≤ 9223372036854775807 := by
  obtain ⟨_, _, _, h, _⟩ := h; exact h
def Ints (M : Nat → Prop) (w : World) (v : Value) (xs : List Int) : Prop := SliceIn M w v (xs.map (Value.int .i64))
theorem Ints.open {M : Nat → Prop} {w : World} {v : Value} {xs : List Int} (h : Ints M w v xs) : ∃ a c, v = .slice a xs.length c ∧ xs.length ≤ 9223372036854775807 ∧
    ∀ i, i < xs.length → ∃ b off x, a = some ⟨b, off, none⟩ ∧ ¬ M b ∧ xs[i]? = some x ∧ w.cell? ⟨b, off + i, none⟩ = some (.int .i64 x) := by
  obtain ⟨a, c, h1, h2, h3⟩ := h
  refine ⟨a, c, by simpa using h1, by simpa using h2, fun i hi => ?_⟩
  obtain ⟨b, off, u, q1, q2, q3, q4⟩ := h3 i (by simpa using hi)
  rw [List.getElem?_map] at q3
  obtain ⟨x, hx, rfl⟩ := Option.map_eq_some_iff.1 q3
  exact ⟨b, off, x, q1, q2, hx, q4⟩
section
variable {P : Program} {ops : Array Oper} {rest : List Oper} {o : Oper} {a : Act} {Q : Exit → Act → World → Prop} {w : World}
theorem run_push (t ty e : TypeId) {B : Nat} {z : Value} {bytes : Nat} (ht : P.underlying t = some (.slice e)) (hinfo : (P.info? e).map (fun i => (i.zero, i.size, i.bytes)) = some (some z, 1, bytes)) (hzs : z.cells.size = 1)
    (v : Value) (cs : List Value) (u : Value) (hown : w.ownsRow B e 1 v cs.length cs) (blk : Nat)
    (hu : w.cell? ⟨blk, 0, none⟩ = some u) (h1 : u.oneCell' = true) (hlen : cs.length < 1099511627776) (hby : bytes ≤ 64) (hB : B ≤ w.heap.size) :
    ∃ v' w', (Builtin.append_ #[t, t] ty #[v, .slice (some ⟨blk, 0, none⟩) 1 1]).run P w = .ok v' w' ∧ w'.ownsRow B e 1 v' (cs ++ [u]).length (cs ++ [u]) ∧ w.grownBy w' v.ownBlock ∧
      (∀ k, v'.ownBlock = some k → v.ownBlock = some k ∨ k = w.heap.size) ∧ (∃ g c, v' = .slice (some ⟨g, 0, none⟩) (cs.length + 1) c) := by
  obtain ⟨i, hi, hz, hsize, hbytes⟩ := info_parts hinfo
  have hnews : ∀ j u', [u][j]? = some u' → w.cell? ((⟨blk, 0, none⟩ : Addr).add j) = some u' := by
    intro j u' hj
    cases j with
    | zero => simp at hj; subst hj; simpa [Addr.add] using hu
    | succ j => simp at hj
  have h1' : ∀ u' ∈ [u], u'.oneCell' = true := by simpa using h1
  have hb : (cs.length + 1) * bytes ≤ (cs.length + 1) * 64 := Nat.mul_le_mul_left _ hby
  have hb2 : (cs.length + 1) * bytes ≤ 140737488355328 := by omega
  obtain ⟨v', w', hr, h2, h3, _⟩ := run_append_own (P := P) w B t ty e i z 1 bytes ht hi hz hsize hbytes hzs (by decide) v cs.length cs hown ⟨blk, 0, none⟩ 1 1 [u] rfl hnews h1' (by unfold maxLen; omega) hb2 hB
  refine ⟨v', w', hr, by simpa using h2, h3, ?_⟩
  rcases hown.2 with ⟨rfl, hl⟩ | ⟨g, cap, cur, rfl, hbg, hg, hnc, hcm, hcs, htake⟩
  · have hr2 := run_append_nil (P := P) w t ty e i z ht hi hz ⟨blk, 0, none⟩ 1 1 [u] (by simp [hsize]) hnews (by omega) (by omega) (by rw [hbytes]; omega)
    rw [hr2] at hr
    simp only [Result.ok.injEq] at hr
    refine ⟨fun k hk => ?_, w.heap.size, grownCap w 1 0 e, ?_⟩
    · rw [← hr.1] at hk; simp [Value.ownBlock] at hk; exact .inr hk.symm
    · rw [← hr.1, hl]
  · by_cases hroom : cs.length + 1 ≤ cap
    · have hr2 := run_append_room (P := P) w t ty e i ht hi g cs.length cap cur hg ⟨blk, 0, none⟩ 1 1 [u] (by simp [hsize]) hnews h1' hroom (by rw [hsize, hcs]; simp; omega)
      rw [hr2] at hr
      simp only [Result.ok.injEq] at hr
      refine ⟨fun k hk => ?_, g, cap, hr.1.symm⟩
      rw [← hr.1] at hk; simp [Value.ownBlock] at hk; exact .inl (by simp [Value.ownBlock, hk])
    · have holds : ∀ j u', cs[j]? = some u' → w.cell? ((⟨g, 0, none⟩ : Addr).add j) = some u' := hown.cells (g := g) rfl
      have hr2 := run_append_grow (P := P) w t ty e i z ht hi hz ⟨g, 0, none⟩ cs.length cap cs (by simp [hsize]) holds ⟨blk, 0, none⟩ 1 1 [u] (by simp [hsize]) hnews (by omega) (by omega) (growslice_fits (by omega) (by rw [hbytes]; exact hb2))
      rw [hr2] at hr
      simp only [Result.ok.injEq] at hr
      refine ⟨fun k hk => ?_, w.heap.size, _, hr.1.symm⟩
      rw [← hr.1] at hk; simp [Value.ownBlock] at hk; exact .inr hk.symm
theorem wpList_push (hgd : o.guard = none) (s x : Operand) (t : TypeId)
    (ho : o.op = .call { callee := .builtin .append, args := #[s, x], argTypes := #[t, t] })
    {B : Nat} {e : TypeId} {z : Value} {bytes : Nat} (ht : P.underlying t = some (.slice e)) (hinfo : (P.info? e).map (fun i => (i.zero, i.size, i.bytes)) = some (some z, 1, bytes)) (hzs : z.cells.size = 1)
    (v : Value) (cs : List Value) (u : Value) (hs : a.eval s = v) (hown : w.ownsRow B e 1 v cs.length cs) (blk : Nat) (hx : a.eval x = .slice (some ⟨blk, 0, none⟩) 1 1)
    (hu : w.cell? ⟨blk, 0, none⟩ = some u) (h1 : u.oneCell' = true) (hlen : cs.length < 1099511627776) (hby : bytes ≤ 64) (hB : B ≤ w.heap.size)
    (h : ∀ v' w', w'.ownsRow B e 1 v' (cs ++ [u]).length (cs ++ [u]) → w.grownBy w' v.ownBlock → (∀ k, v'.ownBlock = some k → v.ownBlock = some k ∨ k = w.heap.size) → wpList P ops Q rest (a.put o.dst v') w') : wpList P ops Q (o :: rest) a w := by
  obtain ⟨v', w', hr, h2, h3, h4, _⟩ := run_push (P := P) t o.type e ht hinfo hzs v cs u hown blk hu h1 hlen hby hB
  refine wpList_plain hgd fun K hK => ?_
  unfold Oper.wp execOp
  simp only [ho, resolve, invoke, builtin, Sem.run_bind, Sem.run_pure, Result.andThen_ok, List.map_toArray, List.map_cons, List.map_nil, hs, hx, hr]
  exact hK _ _ (h v' w' h2 h3 h4)
end
structure IntsL (M : Nat → Prop) (w : World) (v : Value) (xss : List (List Int)) : Prop where
  ex : ∃ vs, SliceIn M w v vs ∧ vs.length = xss.length ∧ ∀ (i : Nat) v' xs, vs[i]? = some v' → xss[i]? = some xs → Ints M w v' xs
theorem IntsL.mut {M S : Nat → Prop} {w w' : World} {v : Value} {xss : List (List Int)} (h : IntsL M w v xss) (m : Mut S w w') (hs : ∀ b, b < w.heap.size → S b → M b) : IntsL M w' v xss := by
  obtain ⟨vs, h1, h2, h3⟩ := h
  exact ⟨vs, h1.mut m hs, h2, fun i v' xs q1 q2 => (h3 i v' xs q1 q2).mut m hs⟩
theorem Ints.mut {M S : Nat → Prop} {w w' : World} {v : Value} {xs : List Int} (h : Ints M w v xs) (m : Mut S w w') (hs : ∀ b, b < w.heap.size → S b → M b) : Ints M w' v xs := SliceIn.mut h m hs
theorem Ints.mono {M M' : Nat → Prop} {w : World} {v : Value} {xs : List Int} (h : Ints M w v xs) (hM : ∀ b, b < w.heap.size → M' b → M b) : Ints M' w v xs := SliceIn.mono h hM
theorem IntsL.open {M : Nat → Prop} {w : World} {v : Value} {xss : List (List Int)} (h : IntsL M w v xss) : ∃ a c, v = .slice a xss.length c ∧ xss.length ≤ 9223372036854775807 ∧
    ∀ i, i < xss.length → ∃ b off v' xs, a = some ⟨b, off, none⟩ ∧ ¬ M b ∧ xss[i]? = some xs ∧ w.cell? ⟨b, off + i, none⟩ = some v' ∧ Ints M w v' xs := by
  obtain ⟨vs, ⟨a, c, h1, h2, h3⟩, h4, h5⟩ := h
  rw [h4] at h1 h2
  refine ⟨a, c, h1, h2, fun i hi => ?_⟩
  obtain ⟨b, off, u, q1, q2, q3, q4⟩ := h3 i (by omega)
  exact ⟨b, off, u, xss[i], q1, q2, by simp [hi], q4, h5 i u _ q3 (by simp [hi])⟩
end Go.PP
