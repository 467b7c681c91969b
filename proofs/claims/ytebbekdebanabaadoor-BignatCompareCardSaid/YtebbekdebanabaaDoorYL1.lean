/- The long division as the code does it (plain). No condition. -/
import Derived.Test.YtebbekdebanabaaDoorYK2
import Derived.Test.YtebbekdebanabaaDoorYNG
import Derived.Test.YtebbekdebanabaaDoorYX1

set_option linter.unusedSimpArgs false
set_option linter.unusedVariables false
set_option maxHeartbeats 4000000
set_option maxRecDepth 8000
namespace Go.Proofs.YtebbekdebanabaaDoor
open Go Go.RowKit Go.PP Go.Dm Go.Bn
theorem val_hi {l : List Nat} {n : Nat} (hd : Dg BW l) (hn : n ≤ l.length) (h : val BW l < BW ^ n) : val BW (l.drop n) = 0 := by
  have h1 := val_cut (B := BW) l n hn
  refine Classical.byContradiction fun h0 => ?_
  have : BW ^ n * 1 ≤ BW ^ n * val BW (l.drop n) := Nat.mul_le_mul_left _ (by omega)
  omega
theorem val_take_lo {l : List Nat} {n : Nat} (hn : n ≤ l.length) (h : val BW (l.drop n) = 0) : val BW (l.take n) = val BW l := by
  have h1 := val_cut (B := BW) l n hn
  rw [h, Nat.mul_zero] at h1
  omega
/-- The divisor's words, and what is known of their top. -/
structure DivV (b s : Nat) (v : List Nat) (n top next : Nat) : Prop where
  len : v.length = n
  n2 : 2 ≤ n
  dg : Dg BW v
  vv : val BW v = b * 2 ^ s
  t1 : v[n - 1]? = some top
  t0 : v[n - 2]? = some next
  big : BW ≤ 2 * top
  s31 : s < 32
theorem divV_of {b : Nat} {l : List Nat} {t s : Nat} (hl : dig BW b = l) (h2 : 2 ≤ l.length) (ht : l[l.length - 1]? = some t) (hs : s + blen t = 32) : ∃ top next, DivV b s ((leftW s l).take l.length) l.length top next := by
  have hd : Dg BW l := hl ▸ dig_dg hBW b
  have hvl : val BW l = b := by rw [← hl]; exact val_dig hBW b
  have ht0 : t ≠ 0 := by
    have := (dig_cn hBW b).2 t (by rw [List.getLast?_eq_getElem?, hl]; exact ht)
    exact this
  have hb0 := blen_ne ht0
  have hs32 : s < 32 := by omega
  have hll := left_len hs32 hd
  have hlv := left_val hs32 hd
  have hld := left_dg hs32 hd
  have hup := blen_up t
  have hlow := blen_low ht0
  have hvt := val_take (B := BW) ht
  have hn1 : l.length - 1 + 1 = l.length := by omega
  rw [hn1, List.take_length, hvl] at hvt
  have hlt := val_lt (hd.take (l.length - 1))
  rw [List.length_take, Nat.min_eq_left (by omega)] at hlt
  have hBn : BW ^ l.length = BW ^ (l.length - 1) * BW := by rw [← Nat.pow_succ]; congr 1; omega
  have h2s : 2 ^ blen t * 2 ^ s = BW := by rw [← Nat.pow_add, Nat.add_comm, hs]
  have h2s' : 2 ^ (blen t - 1) * 2 ^ s = 2147483648 := by rw [← Nat.pow_add, show blen t - 1 + s = 31 by omega]
  have hV : b * 2 ^ s < BW ^ l.length := by
    have e : b < BW ^ (l.length - 1) * 2 ^ blen t := by
      have : BW ^ (l.length - 1) * (t + 1) ≤ BW ^ (l.length - 1) * 2 ^ blen t := Nat.mul_le_mul_left _ hup
      rw [Nat.mul_add, Nat.mul_one] at this
      omega
    have := Nat.mul_lt_mul_of_pos_right e (Nat.pow_pos (n := s) (show 0 < 2 by decide))
    rw [Nat.mul_assoc, h2s, ← hBn] at this
    exact this
  have hV2 : BW ^ (l.length - 1) * 2147483648 ≤ b * 2 ^ s := by
    have e : BW ^ (l.length - 1) * 2 ^ (blen t - 1) ≤ b := by
      have : BW ^ (l.length - 1) * 2 ^ (blen t - 1) ≤ BW ^ (l.length - 1) * t := Nat.mul_le_mul_left _ hlow
      omega
    have := Nat.mul_le_mul_right (2 ^ s) e
    rwa [Nat.mul_assoc, h2s'] at this
  rw [hvl] at hlv
  have hz := val_hi hld (n := l.length) (by omega) (by rw [hlv]; exact hV)
  have hvv := val_take_lo (l := leftW s l) (n := l.length) (by omega) hz
  rw [hlv] at hvv
  have hvl2 : ((leftW s l).take l.length).length = l.length := by rw [List.length_take, hll, Nat.min_eq_left (by omega)]
  obtain ⟨top, htop⟩ : ∃ top, ((leftW s l).take l.length)[l.length - 1]? = some top := ⟨_, List.getElem?_eq_getElem (by omega)⟩
  obtain ⟨next, hnext⟩ : ∃ next, ((leftW s l).take l.length)[l.length - 2]? = some next := ⟨_, List.getElem?_eq_getElem (by omega)⟩
  refine ⟨top, next, hvl2, h2, hld.take _, hvv, htop, hnext, ?_, hs32⟩
  have h3 := val_take (B := BW) htop
  have h4 := val_lt ((hld.take l.length).take (l.length - 1))
  rw [List.length_take, hvl2, Nat.min_eq_left (by omega)] at h4
  rw [hn1, List.take_of_length_le (by omega), hvv] at h3
  have h5 : BW ^ (l.length - 1) * 2147483648 < BW ^ (l.length - 1) * (top + 1) := by rw [Nat.mul_add, Nat.mul_one]; omega
  have h6 := Nat.lt_of_mul_lt_mul_left h5
  show 4294967296 ≤ 2 * top
  omega
/-- One digit, as the code computes it: the guess; the window behind it; the digit. -/
def dvQ (v w : List Nat) (top next : Nat) : Nat := gsL BW top next (w.getD (v.length - 2) 0) ((w.getD v.length 0 * 4294967296 + w.getD (v.length - 1) 0) / top) ((w.getD v.length 0 * 4294967296 + w.getD (v.length - 1) 0) % top)
def dvW (v w : List Nat) (q : Nat) : List Nat := if (tkR q v w).2 then bkR v (tkR q v w).1 else (tkR q v w).1
theorem q_bound {high mid top next : Nat} (h6 : high * BW + mid < top * BW + next + 1) (h7 : next < 4294967296) (hbig : 4294967296 ≤ 2 * top) : (high * 4294967296 + mid) / top ≤ BW + 1 := by
  have h8 : (high * 4294967296 + mid) / top < 4294967298 := by
    refine Nat.div_lt_of_lt_mul ?_
    unfold BW at h6
    omega
  unfold BW
  omega
theorem div_step {b s n top next : Nat} {v w : List Nat} (hv : DivV b s v n top next) (hw : Dg BW w) (hl : n < w.length) (huv : val BW w < val BW v * BW) (hz : val BW (w.drop (n + 1)) = 0) :
    dvQ v w top next ≤ 4294967296 ∧ (dvW v w (dvQ v w top next)).length = w.length ∧ Dg BW (dvW v w (dvQ v w top next)) ∧ val BW (dvW v w (dvQ v w top next)) = val BW w % val BW v ∧ val BW w / val BW v < 4294967296 ∧
    ((tkR (dvQ v w top next) v w).2 = false → dvQ v w top next = val BW w / val BW v) ∧ ((tkR (dvQ v w top next) v w).2 = true → dvQ v w top next = val BW w / val BW v + 1) := by
  have hlen := hv.len
  subst hlen
  have n2 := hv.n2
  have g2 : w[v.length]? = some w[v.length] := List.getElem?_eq_getElem hl
  have g1 : w[v.length - 1]? = some (w[v.length - 1]'(by omega)) := List.getElem?_eq_getElem _
  have g0 : w[v.length - 2]? = some (w[v.length - 2]'(by omega)) := List.getElem?_eq_getElem _
  have hB : dvQ v w top next = gsL BW top next (w[v.length - 2]'(by omega)) ((w[v.length] * 4294967296 + (w[v.length - 1]'(by omega))) / top) ((w[v.length] * 4294967296 + (w[v.length - 1]'(by omega))) % top) := by
    unfold dvQ
    simp only [List.getD_eq_getElem?_getD, g2, g1, g0, Option.getD_some]
  have hsh := gsh_of (B := BW) (by decide) hw hv.dg n2 rfl g2 g1 g0 hz hv.t1 hv.t0 hv.big huv
  have htB : top < 4294967296 := hv.dg.at hv.t1
  have hbig : 4294967296 ≤ 2 * top := hv.big
  generalize w[v.length] = high at *
  generalize (w[v.length - 1]'(by omega)) = mid at *
  generalize (w[v.length - 2]'(by omega)) = low at *
  have ht0 : 0 < top := by omega
  have hV0 : 0 < val BW v := Nat.pos_of_ne_zero fun e => by rw [e, Nat.zero_mul] at huv; omega
  have hVL : val BW v ≤ BW ^ (v.length + 1) := Nat.le_trans (Nat.le_of_lt (val_lt hv.dg)) (Nat.pow_le_pow_right (by decide) (by omega))
  have hUV : val BW w / val BW v < 4294967296 := Nat.div_lt_of_lt_mul huv
  have hs2 : (high * 4294967296 + mid) / top ≤ BW + 1 := by
    have h1 : (high * BW + mid) * BW + low < (top * BW + next + 1) * BW := by
      have hP : 0 < BW ^ (v.length - 2) := Nat.pow_pos (by decide)
      have h2 := hsh.u1
      have h3 := hsh.v2
      have h4 : val BW v * BW ≤ (top * BW + next + 1) * BW ^ (v.length - 2) * BW := Nat.mul_le_mul_right _ (Nat.le_of_lt h3)
      have h5 : ((high * BW + mid) * BW + low) * BW ^ (v.length - 2) < (top * BW + next + 1) * BW * BW ^ (v.length - 2) := by
        rw [Nat.mul_right_comm (top * BW + next + 1)]
        omega
      exact Nat.lt_of_mul_lt_mul_right h5
    have h6 : high * BW + mid < top * BW + next + 1 := by
      exact Nat.lt_of_mul_lt_mul_right (a := BW) (Nat.lt_of_le_of_lt (Nat.le_add_right _ _) h1)
    have h7 : next < 4294967296 := hsh.nx
    exact q_bound h6 h7 hbig
  have hgs := hsh.gs ((high * 4294967296 + mid) / top) ((high * 4294967296 + mid) % top) (by rw [Nat.mul_comm]; exact Nat.div_add_mod _ _) (hsh.first ht0) hs2 (Nat.lt_trans (Nat.mod_lt _ ht0) htB)
  rw [← hB] at hgs
  generalize dvQ v w top next = q at *
  have hqB : q ≤ 4294967296 := by omega
  obtain ⟨e, he1, he2, hl1, hd1, hv1, hh1⟩ := tkR_inv (q := q) (show q ≤ BW from hqB) hv.dg hw hl
  have hz1 : (tkR q v w).1.drop (v.length + 1) = w.drop (v.length + 1) := by
    apply List.ext_getElem?
    intro j
    rw [List.getElem?_drop, List.getElem?_drop]
    exact hh1 _ (by omega)
  have ht1 := val_take_lo (l := (tkR q v w).1) (n := v.length + 1) (by omega) (by rw [hz1]; exact hz)
  have ht2 := val_lt (hd1.take (v.length + 1))
  rw [ht1, List.length_take, Nat.min_eq_left (by omega)] at ht2
  obtain ⟨hl2, hd2, ⟨c, hc⟩, hh2⟩ := bkR_inv hv.dg hd1 (by omega : v.length < (tkR q v w).1.length)
  have hz2 : (bkR v (tkR q v w).1).drop (v.length + 1) = w.drop (v.length + 1) := by
    rw [← hz1]
    apply List.ext_getElem?
    intro j
    rw [List.getElem?_drop, List.getElem?_drop]
    exact hh2 _ (by omega)
  have ht3 := val_take_lo (l := bkR v (tkR q v w).1) (n := v.length + 1) (by omega) (by rw [hz2]; exact hz)
  have ht4 := val_lt (hd2.take (v.length + 1))
  rw [ht3, List.length_take, Nat.min_eq_left (by omega)] at ht4
  have hwin := window (w := val BW (bkR v (tkR q v w).1)) hgs.1 hgs.2 hV0 hVL hv1 ht2 he1
  refine ⟨hqB, ?_, ?_, ?_, hUV, fun hf => ?_, fun hf => ?_⟩
  · unfold dvW
    split
    · omega
    · omega
  · unfold dvW
    split
    · exact hd2
    · exact hd1
  · unfold dvW
    rw [he2]
    by_cases h0 : e = 0
    · rw [if_neg (by rw [decide_eq_false (by omega)]; decide)]
      exact (hwin.1 h0).2
    · rw [if_pos (by rw [decide_eq_true h0])]
      exact (hwin.2 (by omega)).2 c hc ht4
  · rw [he2] at hf
    have h0 : e = 0 := by
      have := of_decide_eq_false hf
      omega
    exact (hwin.1 h0).1
  · rw [he2] at hf
    have h0 : e ≠ 0 := of_decide_eq_true hf
    exact (hwin.2 (by omega)).1
/-- After t digits of m: what is left, and the digits. -/
def dvT (v u0 : List Nat) (top next m : Nat) : Nat → List Nat × List Nat
  | 0 => (u0, [])
  | t + 1 => (fun s => (s.1.take (m - (t + 1)) ++ dvW v (s.1.drop (m - (t + 1))) (dvQ v (s.1.drop (m - (t + 1))) top next), val BW (s.1.drop (m - (t + 1))) / val BW v :: s.2)) (dvT v u0 top next m t)
theorem dvT_inv {b s n top next m : Nat} {v u0 : List Nat} (hv : DivV b s v n top next) (hu : Dg BW u0) (hm : m + n = u0.length) (h0 : val BW (u0.drop m) < val BW v) : ∀ t, t ≤ m → DvI BW (val BW v) u0 (m - t) (dvT v u0 top next m t).2 (dvT v u0 top next m t).1 ∧ (dvT v u0 top next m t).2.length = t
  | 0, _ => ⟨DvI.start hu h0, rfl⟩
  | t + 1, ht => by
    obtain ⟨ih, il⟩ := dvT_inv hv hu hm h0 t (by omega)
    have e : dvT v u0 top next m (t + 1) = (fun s : List Nat × List Nat => (s.1.take (m - (t + 1)) ++ dvW v (s.1.drop (m - (t + 1))) (dvQ v (s.1.drop (m - (t + 1))) top next), val BW (s.1.drop (m - (t + 1))) / val BW v :: s.2)) (dvT v u0 top next m t) := rfl
    rw [e]
    dsimp only
    obtain ⟨k, hk⟩ : ∃ k, m - t = k + 1 := ⟨m - t - 1, by omega⟩
    have hk2 : m - (t + 1) = k := by omega
    rw [hk2]
    rw [hk] at ih
    generalize (dvT v u0 top next m t).1 = u at *
    generalize (dvT v u0 top next m t).2 = q at *
    have hul := ih.len
    obtain ⟨x, hx⟩ : ∃ x, u[k]? = some x := ⟨_, List.getElem?_eq_getElem (by omega)⟩
    obtain ⟨w1, w2⟩ := ih.win hx
    have hz : val BW ((u.drop k).drop (n + 1)) = 0 := by
      have h1 := val_hi (l := u.drop (k + 1)) (n := n) (ih.dgu.drop _) (by rw [List.length_drop]; omega) (Nat.lt_of_lt_of_le ih.lt (by rw [← hv.len]; exact Nat.le_of_lt (val_lt hv.dg)))
      rw [List.drop_drop] at h1 ⊢
      rw [show k + (n + 1) = k + 1 + n by omega]; exact h1
    obtain ⟨_, d2, d3, d4, _⟩ := div_step hv (ih.dgu.drop k) (by rw [List.length_drop]; omega) w2 hz
    have htl : (u.take k).length = k := by rw [List.length_take, Nat.min_eq_left (by omega)]
    refine ⟨ih.step hBW hx ?_ ((ih.dgu.take k).append d3) ?_ ?_, by rw [List.length_cons, il]⟩
    · rw [List.length_append, d2, htl, List.length_drop]; omega
    · rw [List.take_append_of_le_length (by omega), List.take_of_length_le (by omega)]
    · rw [List.drop_append_of_le_length (by omega), List.drop_eq_nil_of_le (by omega), List.nil_append, d4]
/-- What a step needs, in one. -/
theorem dvT_step {b s n top next m : Nat} {v u0 : List Nat} (hv : DivV b s v n top next) (hu : Dg BW u0) (hm : m + n = u0.length) (h0 : val BW (u0.drop m) < val BW v) (k : Nat) (hk : k < m) :
    ∃ u q, dvT v u0 top next m (m - (k + 1)) = (u, q) ∧ dvT v u0 top next m (m - k) = (u.take k ++ dvW v (u.drop k) (dvQ v (u.drop k) top next), val BW (u.drop k) / val BW v :: q) ∧ u.length = u0.length ∧ q.length = m - (k + 1) ∧ Dg BW u ∧ val BW (u.drop k) < val BW v * BW ∧ val BW ((u.drop k).drop (n + 1)) = 0 := by
  obtain ⟨ih, il⟩ := dvT_inv hv hu hm h0 (m - (k + 1)) (by omega)
  have e : dvT v u0 top next m (m - k) = (fun s : List Nat × List Nat => (s.1.take (m - (m - (k + 1) + 1)) ++ dvW v (s.1.drop (m - (m - (k + 1) + 1))) (dvQ v (s.1.drop (m - (m - (k + 1) + 1))) top next), val BW (s.1.drop (m - (m - (k + 1) + 1))) / val BW v :: s.2)) (dvT v u0 top next m (m - (k + 1))) := by
    rw [show m - k = m - (k + 1) + 1 by omega]; rfl
  rw [show m - (m - (k + 1) + 1) = k by omega] at e
  rw [show m - (m - (k + 1)) = k + 1 by omega] at ih
  refine ⟨_, _, rfl, e, ih.len, il, ih.dgu, ?_, ?_⟩
  · obtain ⟨x, hx⟩ : ∃ x, (dvT v u0 top next m (m - (k + 1))).1[k]? = some x := ⟨_, List.getElem?_eq_getElem (by rw [ih.len]; omega)⟩
    exact (ih.win hx).2
  · have h1 := val_hi (l := (dvT v u0 top next m (m - (k + 1))).1.drop (k + 1)) (n := n) (ih.dgu.drop _) (by rw [List.length_drop, ih.len]; omega) (Nat.lt_of_lt_of_le ih.lt (by rw [← hv.len]; exact Nat.le_of_lt (val_lt hv.dg)))
    rw [List.drop_drop] at h1 ⊢
    rw [show k + (n + 1) = k + 1 + n by omega]; exact h1
/-- The words of the remainder, shifted back. -/
def rsW (s : Nat) (u : List Nat) (i : Nat) : Nat := (u.getD (i + 1) 0 * 4294967296 + u.getD i 0) / 2 ^ s % 4294967296
theorem rs_inv {s : Nat} {u : List Nat} (hs : s < 32) (hu : Dg BW u) : ∀ i, i < u.length → val BW ((List.range i).map (rsW s u)) + BW ^ i * (val BW (u.drop i) / 2 ^ s) = val BW u / 2 ^ s
  | 0, _ => by rw [Nat.pow_zero, Nat.one_mul]; show 0 + _ = _; rw [Nat.zero_add]; rfl
  | i + 1, hi => by
    have ih := rs_inv hs hu i (by omega)
    have h0 : u[i]? = some u[i] := List.getElem?_eq_getElem (by omega)
    have h1 : u[i + 1]? = some u[i + 1] := List.getElem?_eq_getElem (by omega)
    have hw : rsW s u i = val BW (u.drop i) / 2 ^ s % 4294967296 := by
      unfold rsW
      rw [List.getD_eq_getElem?_getD, List.getD_eq_getElem?_getD, h0, h1, Option.getD_some, Option.getD_some, drop_cons h0, drop_cons h1]
      show _ = (u[i] + 4294967296 * (u[i + 1] + 4294967296 * val BW (u.drop (i + 1 + 1)))) / 2 ^ s % 4294967296
      generalize val BW (u.drop (i + 1 + 1)) = z
      obtain ⟨t, ht⟩ : ∃ t, 4294967296 = 2 ^ s * t := ⟨2 ^ (32 - s), by rw [← Nat.pow_add, show s + (32 - s) = 32 by omega]⟩
      have e : u[i] + 4294967296 * (u[i + 1] + 4294967296 * z) = (u[i + 1] * 4294967296 + u[i]) + 2 ^ s * (t * 4294967296 * z) := by
        have h3 : 4294967296 * (4294967296 * z) = 2 ^ s * (t * 4294967296 * z) := by
          have h4 : 4294967296 * (4294967296 * z) = 2 ^ s * t * (4294967296 * z) := by rw [← ht]
          rw [h4, Nat.mul_assoc t, Nat.mul_assoc (2 ^ s)]
        rw [Nat.mul_add, h3]
        omega
      rw [e, Nat.add_mul_div_left _ _ (Nat.pow_pos (by decide)), Nat.mul_right_comm t, Nat.mul_comm (t * z), Nat.add_mul_mod_self_left]
    rw [List.range_succ, List.map_append, List.map_cons, List.map_nil, val_snoc, List.length_map, List.length_range, hw, ← ih]
    have hd : val BW (u.drop (i + 1)) / 2 ^ s = val BW (u.drop i) / 2 ^ s / BW := by
      have : val BW (u.drop i) / BW = val BW (u.drop (i + 1)) := by
        rw [drop_cons h0]
        show (u[i] + BW * _) / BW = _
        rw [Nat.add_mul_div_left _ _ (by decide), Nat.div_eq_of_lt (hu.at h0), Nat.zero_add]
      rw [← this, Nat.div_div_eq_div_mul, Nat.div_div_eq_div_mul, Nat.mul_comm]
    rw [hd]
    have := pow_split BW i (val BW (u.drop i) / 2 ^ s)
    have e2 : BW ^ i * (val BW (u.drop i) / 2 ^ s % 4294967296) = BW ^ i * (val BW (u.drop i) / 2 ^ s % BW) := rfl
    omega
end Go.Proofs.YtebbekdebanabaaDoor
