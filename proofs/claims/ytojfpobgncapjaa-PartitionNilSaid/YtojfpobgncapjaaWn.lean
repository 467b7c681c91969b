/- Contracts of the reference Blocks, of NumBlocks and of same at a partition that agrees. Condition: a partition in memory. -/
import Derived.Test.YtojfpobgncapjaaWm
set_option linter.unusedSimpArgs false
set_option linter.unusedVariables false
set_option maxHeartbeats 400000
namespace Go.Proofs.Ytojfpobgncapjaa
open Go Go.RowKit Go.PP

/-- A row of the call's own whose elements are slices of ints that lie neither in a block of M nor in the row's own block. -/
structure RowsL (M : Nat → Prop) (B : Nat) (e2 : TypeId) (w : World) (v : Value) (vs : List Value) (rss : List (List Int)) : Prop where
  own : w.ownsRow B e2 1 v vs.length vs
  len : vs.length = rss.length
  rows : ∀ (j : Nat) u r, vs[j]? = some u → rss[j]? = some r → Ints (fun b => M b ∨ v.ownBlock = some b) w u r

theorem RowsL.nil (M : Nat → Prop) (B : Nat) (e2 : TypeId) (w : World) : RowsL M B e2 w (.slice none 0 0) [] [] :=
  ⟨World.ownsRow_nil _ _ _ _, rfl, fun j r u h => by simp at h⟩

theorem RowsL.mut {M S : Nat → Prop} {B : Nat} {e2 : TypeId} {w w' : World} {v : Value} {vs : List Value} {rss : List (List Int)} (h : RowsL M B e2 w v vs rss) (m : Mut S w w') (hs : ∀ b, b < w.heap.size → S b → M b) (hv : ∀ k, v.ownBlock = some k → ¬ S k) : RowsL M B e2 w' v vs rss :=
  ⟨ownsRow_mut h.own m hv, h.len, fun j u r h1 h2 => (h.rows j u r h1 h2).mut m (fun b hb e => .inl (hs b hb e))⟩

theorem RowsL.push {M : Nat → Prop} {B : Nat} {e2 : TypeId} {w w' : World} {v v' u : Value} {vs : List Value} {rss : List (List Int)} {r : List Int} (h : RowsL M B e2 w v vs rss) (hu : Ints (fun b => M b ∨ v.ownBlock = some b) w u r)
    (ho : w'.ownsRow B e2 1 v' (vs ++ [u]).length (vs ++ [u])) (hg : w.grownBy w' v.ownBlock) (hb : ∀ k, v'.ownBlock = some k → v.ownBlock = some k ∨ k = w.heap.size) : RowsL M B e2 w' v' (vs ++ [u]) (rss ++ [r]) := by
  have keep : ∀ {u : Value} {r : List Int}, Ints (fun b => M b ∨ v.ownBlock = some b) w u r → Ints (fun b => M b ∨ v'.ownBlock = some b) w' u r := fun {u r} h1 => by
    have h2 : Ints (fun b => M b ∨ v.ownBlock = some b ∨ v'.ownBlock = some b) w u r := h1.mono (fun b hlt e => by
      rcases e with e | e | e
      · exact .inl e
      · exact .inr e
      · rcases hb b e with h3 | h3
        · exact .inr h3
        · omega)
    exact (h2.mut (((Mut.refl (fun k => v.ownBlock = some k) w)).grown hg (fun k hk _ => hk)) (fun b _ e => .inr (.inl e))).mono (fun b _ e => by
      rcases e with e | e
      · exact .inl e
      · exact .inr (.inr e))
  refine ⟨ho, by simp [h.len], fun j a b h1 h2 => ?_⟩
  rcases Nat.lt_trichotomy j vs.length with e | e | e
  · rw [List.getElem?_append_left e] at h1
    rw [List.getElem?_append_left (by rw [← h.len]; exact e)] at h2
    exact keep (h.rows j a b h1 h2)
  · subst e
    rw [List.getElem?_append_right (Nat.le_refl _)] at h1
    rw [h.len, List.getElem?_append_right (Nat.le_refl _)] at h2
    simp at h1 h2
    subst h1 h2
    exact keep hu
  · rw [List.getElem?_eq_none (by simp; omega)] at h1; cases h1

theorem RowsL.ints {M : Nat → Prop} {B : Nat} {e2 : TypeId} {w : World} {v : Value} {vs : List Value} {rss : List (List Int)} (h : RowsL M B e2 w v vs rss) (hM : ∀ b, B ≤ b → ¬ M b) : IntsL M w v rss :=
  ⟨vs, SliceIn.of_owns h.own hM, h.len, fun i u xs h1 h2 => (h.rows i u xs h1 h2).mono (fun b _ e => .inl e)⟩

/-- The whole blocks of the heads below k. -/
def wholeTo (R : List Int) (n k : Nat) : List (List Int) := (heads R k).map fun (h : Nat) => blockTo R h n
theorem wholeTo_all (R : List Int) (n : Nat) : wholeTo R n n = rowsTo R n := rfl
theorem wholeTo_len (R : List Int) (n k : Nat) : (wholeTo R n k).length ≤ k := by simpa [wholeTo] using heads_len R k

def IntsLPost (M : Nat → Prop) (w : World) (xss : List (List Int)) (e : Ending) (w' : World) : Prop :=
  ∃ v, e = .returned v ∧ IntsL M w' v xss ∧ Mut (fun _ => False) w w'

theorem rblocks_any (M : Nat → Prop) (v : Value) (R : List Int) (w : World) (hv : Ints M w v R) (hM : ∀ b, M b → b < w.heap.size) (hn : R.length ≤ 4096) :
    Calls Try.prog 41 #[v] w (IntsLPost M w (rowsTo R R.length)) := by
  have hv0 := Lib.hid hv
  obtain ⟨a, c, rfl, hl, -⟩ := hv.open
  clear hv
  replace hM := Lib.hid hM
  go_enter Try.func41, Try.ntmps41
  go_wp2
  go_loopw [3, 4] (fun o i wr => ∃ (k : Nat) (vs : List Value), k ≤ R.length ∧ i = .int .i64 k ∧ RowsL M w.heap.size 24 wr o vs (wholeTo R R.length k) ∧ Mut (fun _ => False) w wr) (fun _ i _ => R.length - (intOf i).toNat)
  case atStart => exact ⟨0, [], by omega, rfl, RowsL.nil _ _ _ _, Mut.refl _ _⟩
  case round =>
    obtain ⟨k, vs, hk, rfl, hO, hm⟩ := hrel
    have hsz := hm.size
    by_cases hlt : k < R.length
    · obtain ⟨b, off, x, rfl, hx, hcx⟩ := Ints.slot hv0.out hm hlt
      have hR := Lib.hid ((hv0.out.mono (M' := fun b => M b ∨ u3.ownBlock = some b) (fun b hb e => by
        rcases e with e | e
        · exact e
        · have := (hO.own.lt b e).1; omega)).mut hm (fun b _ e => e.elim))
      clear hv0
      have hvl : vs.length ≤ k := by have := hO.len; have := wholeTo_len R R.length k; omega
      replace hO := Lib.hid hO
      replace hm := Lib.hid hm
      by_cases e : x = (k : Int)
      · have ht : (x == (k : Int)) = true := by simp [e]
        have hnext := Lib.hid (show wholeTo R R.length (k + 1) = wholeTo R R.length k ++ [blockTo R (k : Nat) R.length] by simp [wholeTo, heads, hx, e])
        replace hx := Lib.hid hx
        replace e := Lib.hid e
        go_wp2_with fail
        refine (block_any (fun b => M b ∨ u3.ownBlock = some b) _ R (k : Nat) _ hR.out (fun b e => ?_) hn).mono ?_
        · rcases e with e | e
          · have := hM.out b e; omega
          · exact (hO.out.own.lt b e).2
        rintro e2 w2 ⟨v2, rfl, hv2, hm2⟩
        have hO2 := hO.out.mut hm2 (fun b _ e => e.elim) (fun k _ e => e)
        have hm3 := hm.out.trans hm2
        obtain ⟨a2, c2, rfl, -, -⟩ := hv2.open
        have hsz3 := hm3.size
        have hO3 := Lib.hid (hO2.mut ((Mut.refl (fun _ => False) w2).alloc (.cells #[.slice a2 (blockTo R (k : Nat) R.length).length c2] 24)) (fun b _ e => e.elim) (fun k _ e => e))
        have hv3 := Lib.hid (hv2.mut ((Mut.refl (fun _ => False) w2).alloc (.cells #[.slice a2 (blockTo R (k : Nat) R.length).length c2] 24)) (fun b _ e => e.elim))
        replace hm3 := Lib.hid hm3
        clear hO hm hm2 hv2 hO2
        go_wp2_with (at_builtin; refine wpList_push rfl _ _ 57 rfl Try.underlying57 info24 rfl _ vs (.slice a2 (blockTo R (k : Nat) R.length).length c2) rfl hO3.out.own _ rfl (by exact cell_new1 _ _ _) rfl (by omega) (by decide) (by simp; omega) ?_; intro v5 w5 ho5 hg5 hb5)
        have hO5 := Lib.hid (hO3.out.push hv3.out ho5 hg5 hb5)
        have hm5 := Lib.hid ((hm3.out.alloc _).grown hg5 (fun q hq h => by have := (hO3.out.own.lt q hq).1; omega))
        clear ho5 hg5 hb5 hO3 hv3
        go_roundw
        case rel => exact ⟨k + 1, _, by omega, by go_num, by rw [hnext.out]; exact hO5.out, hm5.out⟩
        case measure => simp [intOf]; omega
      · have ht : (x == (k : Int)) = false := by simp [e]
        have hnext := Lib.hid (show wholeTo R R.length (k + 1) = wholeTo R R.length k by simp [wholeTo, heads, hx, e])
        replace hx := Lib.hid hx
        replace e := Lib.hid e
        go_wp2
        go_roundw
        case rel => exact ⟨k + 1, vs, by omega, by go_num, by rw [hnext.out]; exact hO.out, hm.out⟩
        case measure => simp [intOf]; omega
    · obtain rfl : k = R.length := by omega
      have H := Lib.hid (show IntsLPost M w (rowsTo R R.length) (.returned u3) wr from ⟨u3, rfl, by rw [← wholeTo_all]; exact hO.ints (fun b hb e => by have := hM.out b e; omega), hm⟩)
      clear hO hm hv0
      go_wp2
      go_ret
      exact H.out
end Go.Proofs.Ytojfpobgncapjaa
