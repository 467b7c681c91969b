/- Contracts over data: a multiple of the divisor taken off. No condition. -/
import Derived.Test.YtebbekdebanabaaDoorYX1
import Derived.Test.YtebbekdebanabaaDoorYNG

set_option linter.unusedSimpArgs false
set_option linter.unusedVariables false
set_option maxHeartbeats 4000000
set_option maxRecDepth 8000
namespace Go.Proofs.YtebbekdebanabaaDoor
open Go Go.RowKit Go.PP Go.Dm Go.Bn
/-- A difference of words that wraps. -/
def wdf (x y b : Nat) : Nat := ((x + 18446744073709551616 - y) % 18446744073709551616 + 18446744073709551616 - b) % 18446744073709551616
theorem wdf_step {x y b : Nat} (hx : x < 4294967296) (hy : y < 4294967296) (hb : b ≤ 1) : wdf x y b / 2 ^ 63 ≤ 1 ∧ wdf x y b % 4294967296 + y + b = x + 4294967296 * (wdf x y b / 2 ^ 63) := sub_step hx hy hb _ rfl
/-- A multiple taken off, word by word: words, carry, borrow. -/
def tkS (q : Nat) (v u : List Nat) : Nat → List Nat × Nat × Nat
  | 0 => (u, 0, 0)
  | i + 1 => (fun s => (s.1.set i (wdf (s.1.getD i 0) ((q * v.getD i 0 + s.2.1) % 4294967296) s.2.2 % 4294967296), (q * v.getD i 0 + s.2.1) / 4294967296, wdf (s.1.getD i 0) ((q * v.getD i 0 + s.2.1) % 4294967296) s.2.2 / 2 ^ 63)) (tkS q v u i)
theorem tkS_inv {q : Nat} {v u : List Nat} (hq : q ≤ BW) (hv : Dg BW v) (hu : Dg BW u) (hl : v.length < u.length) : ∀ i, i ≤ v.length → TkI BW q u v i (tkS q v u i).1 (tkS q v u i).2.1 (tkS q v u i).2.2
  | 0, _ => TkI.zero hBW hu
  | i + 1, h => by
    have ih := tkS_inv hq hv hu hl i (by omega)
    have hy : v[i]? = some v[i] := List.getElem?_eq_getElem (by omega)
    have ho : (tkS q v u i).1[i]? = some ((tkS q v u i).1[i]'(by rw [ih.len]; omega)) := List.getElem?_eq_getElem _
    have e : tkS q v u (i + 1) = (fun s : List Nat × Nat × Nat => (s.1.set i (wdf (s.1.getD i 0) ((q * v.getD i 0 + s.2.1) % 4294967296) s.2.2 % 4294967296), (q * v.getD i 0 + s.2.1) / 4294967296, wdf (s.1.getD i 0) ((q * v.getD i 0 + s.2.1) % 4294967296) s.2.2 / 2 ^ 63)) (tkS q v u i) := rfl
    rw [e]
    simp only [List.getD_eq_getElem?_getD, hy, ho, Option.getD_some]
    have hst := wdf_step (ih.dg.at ho) (Nat.mod_lt (q * v[i] + (tkS q v u i).2.1) (show 0 < 4294967296 by decide)) ih.b1
    exact ih.step hBW hq hv ho hy (Nat.mod_lt _ (by decide)) hst.1 hst.2
/-- .. and the word above. -/
def tkR (q : Nat) (v u : List Nat) : List Nat × Bool := ((tkS q v u v.length).1.set v.length (wdf ((tkS q v u v.length).1.getD v.length 0) (tkS q v u v.length).2.1 (tkS q v u v.length).2.2 % 4294967296), decide (wdf ((tkS q v u v.length).1.getD v.length 0) (tkS q v u v.length).2.1 (tkS q v u v.length).2.2 / 2 ^ 63 ≠ 0))
theorem tkR_inv {q : Nat} {v u : List Nat} (hq : q ≤ BW) (hv : Dg BW v) (hu : Dg BW u) (hl : v.length < u.length) : ∃ e : Nat, e ≤ 1 ∧ (tkR q v u).2 = decide (e ≠ 0) ∧ (tkR q v u).1.length = u.length ∧ Dg BW (tkR q v u).1 ∧ val BW (tkR q v u).1 + q * val BW v = val BW u + BW ^ (v.length + 1) * e ∧ ∀ j, v.length < j → (tkR q v u).1[j]? = u[j]? := by
  have h := tkS_inv hq hv hu hl v.length (Nat.le_refl _)
  have ho : (tkS q v u v.length).1[v.length]? = some ((tkS q v u v.length).1[v.length]'(by rw [h.len]; omega)) := List.getElem?_eq_getElem _
  unfold tkR
  simp only [List.getD_eq_getElem?_getD, ho, Option.getD_some]
  have hst := wdf_step (h.dg.at ho) h.c1 h.b1
  refine ⟨_, hst.1, rfl, by rw [List.length_set, h.len], h.dg.set (Nat.mod_lt _ (by decide)) _, h.last rfl ho hst.2, fun j hj => ?_⟩
  rw [List.getElem?_set_ne (by omega)]
  exact h.hi j (by omega)
theorem put_pre (pre out : List Nat) (i d : Nat) (hi : i < out.length) : putN (pre ++ out) (pre.length + i) d = pre ++ out.set i d := by
  rw [put_set (by rw [List.length_append]; omega), List.set_append_right _ _ (by omega), Nat.add_sub_cancel_left]
theorem get_pre {pre out : List Nat} {i d : Nat} (h : out[i]? = some d) : partD false 1 (pre.length + i) (u32L (pre ++ out)) = some (.flat (.int .u32 (d : Nat))) := by
  have := part_u32 (l := pre ++ out) (i := pre.length + i) (d := d) (by rw [List.getElem?_append_right (by omega), Nat.add_sub_cancel_left]; exact h)
  rwa [Nat.mul_one] at this
theorem mul_leB {x y : Nat} (hx : x ≤ 4294967296) (hy : y < 4294967296) : (x : Int) * (y : Int) ≤ 18446744069414584320 ∧ 0 ≤ (x : Int) * (y : Int) := by
  have h : x * y ≤ 4294967296 * 4294967295 := Nat.mul_le_mul hx (by omega)
  have e : ((x * y : Nat) : Int) = (x : Int) * (y : Int) := Int.natCast_mul x y
  omega
abbrev tkD (pre v out : List Nat) (m q j c b : Nat) : DS := ⟨[(0, .bsl 62705706376413983192932485137940986937884566817559884303787719047888900688851843143864471152753692283952033148481586190617316153647706554688546833642147551178398414506059224584003254872599754021256875212800007 pre.length m m), (1, wsD v), (2, .flat (.int .u64 (q : Nat))), (7, .flat (.int .u64 (c : Nat))), (8, .flat (.int .u64 (b : Nat))), (14, wsD v), (15, .flat (.int .i64 (v.length : Nat))), (16, .flat (.int .i64 (j : Nat)))], [(62705706376413983192932485137940986937884566817559884303787719047888900688851843143864471152753692283952033148481586190617316153647706554688546833642147551178398414506059224584003254872599754021256875212800007, some (.box (u32L (pre ++ out))))]⟩
theorem and32 (p : Nat) (hp : p < 18446744073709551616) : IntKind.u64.wrap ((BitVec.ofInt IntKind.u64.bits (p : Int) &&& BitVec.ofInt IntKind.u64.bits 4294967295).toNat) = ((p % 4294967296 : Nat) : Int) := by
  have h := n64_andL (a := p) (b := 4294967295) hp (by decide)
  rw [Nat.and_two_pow_sub_one_eq_mod p 32] at h
  exact h
theorem wsubs (x y b : Nat) (hx : x < 4294967296) (hy : y < 4294967296) (hb : b ≤ 1) : ∃ p, IntKind.u64.wrap ((x : Int) - (y : Int)) = ((p : Nat) : Int) ∧ IntKind.u64.wrap ((p : Int) - (b : Int)) = ((wdf x y b : Nat) : Int) :=
  ⟨_, wsub64 x y (by omega) (by omega), wsub64 _ b (Nat.mod_lt _ (by decide)) (by omega)⟩
theorem wdf_lt (x y b : Nat) : wdf x y b < 18446744073709551616 := Nat.mod_lt _ (by decide)
theorem take_b (pre u v : List Nat) (q m : Nat) (hq : q ≤ 4294967296) (hv : Dg BW v) (hu : Dg BW u) (hl : v.length < u.length) (hm : m = u.length) (lv : pre.length + u.length ≤ 200000) :
    DLend Tryd.prog 54 [.bsl 62705706376413983192932485137940986937884566817559884303787719047888900688851843143864471152753692283952033148481586190617316153647706554688546833642147551178398414506059224584003254872599754021256875212800007 pre.length m m, wsD v, .flat (.int .u64 (q : Nat))] [(62705706376413983192932485137940986937884566817559884303787719047888900688851843143864471152753692283952033148481586190617316153647706554688546833642147551178398414506059224584003254872599754021256875212800007, some (.box (u32L (pre ++ u))))] [(62705706376413983192932485137940986937884566817559884303787719047888900688851843143864471152753692283952033148481586190617316153647706554688546833642147551178398414506059224584003254872599754021256875212800007, some (.box (u32L (pre ++ (tkR q v u).1))))] (.flat (.bool (tkR q v u).2)) := by
  have inv := tkS_inv (q := q) (show q ≤ BW from hq) hv hu hl
  have hst : ∀ j x, v[j]? = some x → tkS q v u (j + 1) = ((tkS q v u j).1.set j (wdf ((tkS q v u j).1.getD j 0) ((q * x + (tkS q v u j).2.1) % 4294967296) (tkS q v u j).2.2 % 4294967296), (q * x + (tkS q v u j).2.1) / 4294967296, wdf ((tkS q v u j).1.getD j 0) ((q * x + (tkS q v u j).2.1) % 4294967296) (tkS q v u j).2.2 / 2 ^ 63) := fun j x hx => by
    have e : v.getD j 0 = x := by rw [List.getD_eq_getElem?_getD, hx]; rfl
    rw [← e]; rfl
  have hR : tkR q v u = ((tkS q v u v.length).1.set v.length (wdf ((tkS q v u v.length).1.getD v.length 0) (tkS q v u v.length).2.1 (tkS q v u v.length).2.2 % 4294967296), decide (wdf ((tkS q v u v.length).1.getD v.length 0) (tkS q v u v.length).2.1 (tkS q v u v.length).2.2 / 2 ^ 63 ≠ 0)) := rfl
  refine DLend.enterA Tryd.func54 Tryd.ntmps54 ?_
  refine DW.walk ?_
  refine DW.loopA (fun j : Nat => tkD pre v (tkS q v u j).1 m q j (tkS q v u j).2.1 (tkS q v u j).2.2) (fun j => j ≤ v.length) (fun j => v.length - j) 0 ?_ (Nat.zero_le _)
  intro j hj
  have hi := inv j hj
  have hlen := hi.len
  have hc : (tkS q v u j).2.1 < 4294967296 := hi.c1
  have hb := hi.b1
  have ho : (tkS q v u j).1[j]? = some ((tkS q v u j).1[j]'(by rw [hlen]; omega)) := List.getElem?_eq_getElem _
  have hoB : ((tkS q v u j).1[j]'(by rw [hlen]; omega)) < 4294967296 := hi.dg.at ho
  have hgD : (tkS q v u j).1.getD j 0 = ((tkS q v u j).1[j]'(by rw [hlen]; omega)) := by rw [List.getD_eq_getElem?_getD, ho]; rfl
  generalize ((tkS q v u j).1[j]'(by rw [hlen]; omega)) = oo at *
  rcases Nat.lt_or_ge j v.length with hlt | hge
  · obtain ⟨y, hy⟩ : ∃ y, v[j]? = some y := ⟨_, List.getElem?_eq_getElem hlt⟩
    have hs := hst j y hy
    rw [hgD] at hs
    have hyB : y < 4294967296 := hv.at hy
    have h1 := part_u32 hy
    generalize hS : tkS q v u j = S at *
    obtain ⟨out, c, b⟩ := S
    dsimp only at *
    have h2 := get_pre (pre := pre) ho
    have h3 := mul_leB hq hyB
    have hp : q * y + c < 18446744073709551616 := by
      have : ((q * y : Nat) : Int) = (q : Int) * (y : Int) := Int.natCast_mul ..
      omega
    have hpI : (q : Int) * (y : Int) + (c : Int) = ((q * y + c : Nat) : Int) := by rw [Int.natCast_add, Int.natCast_mul]
    have hk1 := keysOf_u32 (pre ++ out)
    have hll : (pre ++ out).length = pre.length + u.length := by rw [List.length_append, hlen]
    clear hi inv hst hR hu hv
    refine DW.walkTo 6 ?_
    rw [hpI]
    generalize q * y + c = p at *
    have hand := and32 p hp
    have ha : p % 4294967296 < 4294967296 := Nat.mod_lt _ (by decide)
    have hdiv : p / 2 ^ 32 = p / 4294967296 := rfl
    generalize p % 4294967296 = a at *
    obtain ⟨p1, hs1, hs2⟩ := wsubs oo a b hoB ha hb
    have hw := wdf_lt oo a b
    generalize wdf oo a b = d at *
    refine DW.walk ?_
    rw [put_pre _ _ _ _ (by rw [hlen]; omega), hdiv]
    refine ⟨j + 1, by omega, by omega, ?_⟩
    rw [hs]
    exact Sub.auto
  · obtain rfl : j = v.length := by omega
    rw [hgD] at hR
    rw [hR]
    generalize hS : tkS q v u v.length = S at *
    obtain ⟨out, c, b⟩ := S
    dsimp only at *
    have h2 := get_pre (pre := pre) ho
    have hk1 := keysOf_u32 (pre ++ out)
    have hll : (pre ++ out).length = pre.length + u.length := by rw [List.length_append, hlen]
    clear hi inv hst hR hu hv
    obtain ⟨p1, hs1, hs2⟩ := wsubs oo c b hoB hc hb
    have hw := wdf_lt oo c b
    generalize wdf oo c b = d at *
    have hdb : decide (((d / 2 ^ 63 : Nat) : Int) ≠ 0) = decide (d / 2 ^ 63 ≠ 0) := decide_eq_decide.2 (by omega)
    refine DW.walk ?_
    rw [put_pre _ _ _ _ (by rw [hlen]; omega), hdb]
    exact ⟨.inr rfl, ResL.oneA⟩
end Go.Proofs.YtebbekdebanabaaDoor

set_option linter.unusedSimpArgs false
set_option linter.unusedVariables false
set_option maxHeartbeats 4000000
set_option maxRecDepth 8000
namespace Go.Proofs.YtebbekdebanabaaDoor
open Go Go.RowKit Go.PP Go.Dm Go.Bn
/-- The divisor added back, word by word: words, carry. -/
def bkS (v u : List Nat) : Nat → List Nat × Nat
  | 0 => (u, 0)
  | i + 1 => (fun s => (s.1.set i ((s.1.getD i 0 + v.getD i 0 + s.2) % 4294967296), (s.1.getD i 0 + v.getD i 0 + s.2) / 4294967296)) (bkS v u i)
theorem bkS_inv {v u : List Nat} (hv : Dg BW v) (hu : Dg BW u) (hl : v.length < u.length) : ∀ i, i ≤ v.length → BkI BW u v i (bkS v u i).1 (bkS v u i).2
  | 0, _ => BkI.zero hu
  | i + 1, h => by
    have ih := bkS_inv hv hu hl i (by omega)
    have hy : v[i]? = some v[i] := List.getElem?_eq_getElem (by omega)
    have ho : (bkS v u i).1[i]? = some ((bkS v u i).1[i]'(by rw [ih.len]; omega)) := List.getElem?_eq_getElem _
    have e : bkS v u (i + 1) = (fun s : List Nat × Nat => (s.1.set i ((s.1.getD i 0 + v.getD i 0 + s.2) % 4294967296), (s.1.getD i 0 + v.getD i 0 + s.2) / 4294967296)) (bkS v u i) := rfl
    rw [e]
    simp only [List.getD_eq_getElem?_getD, hy, ho, Option.getD_some]
    exact ih.step hBW hv ho hy
def bkR (v u : List Nat) : List Nat := (bkS v u v.length).1.set v.length (((bkS v u v.length).1.getD v.length 0 + (bkS v u v.length).2) % 4294967296)
theorem bkR_inv {v u : List Nat} (hv : Dg BW v) (hu : Dg BW u) (hl : v.length < u.length) : (bkR v u).length = u.length ∧ Dg BW (bkR v u) ∧ (∃ c, val BW (bkR v u) + BW ^ (v.length + 1) * c = val BW u + val BW v) ∧ ∀ j, v.length < j → (bkR v u)[j]? = u[j]? := by
  have h := bkS_inv hv hu hl v.length (Nat.le_refl _)
  have ho : (bkS v u v.length).1[v.length]? = some ((bkS v u v.length).1[v.length]'(by rw [h.len]; omega)) := List.getElem?_eq_getElem _
  unfold bkR
  simp only [List.getD_eq_getElem?_getD, ho, Option.getD_some]
  refine ⟨by rw [List.length_set, h.len], h.dg.set (Nat.mod_lt _ (by decide)) _, ⟨_, h.last rfl ho⟩, fun j hj => ?_⟩
  rw [List.getElem?_set_ne (by omega)]
  exact h.hi j (by omega)
abbrev bkD (pre v out : List Nat) (m j c : Nat) : DS := ⟨[(0, .bsl 62705706376413983192932485137940986937884566817559884303787719047888900688851843143864471152753692283952033148481586190617316153647706554688546833642147551178398414506059224584003254872599754021256875212800007 pre.length m m), (1, wsD v), (4, .flat (.int .u64 (c : Nat))), (8, wsD v), (9, .flat (.int .i64 (v.length : Nat))), (10, .flat (.int .i64 (j : Nat)))], [(62705706376413983192932485137940986937884566817559884303787719047888900688851843143864471152753692283952033148481586190617316153647706554688546833642147551178398414506059224584003254872599754021256875212800007, some (.box (u32L (pre ++ out))))]⟩
theorem back_b (pre u v : List Nat) (m : Nat) (hv : Dg BW v) (hu : Dg BW u) (hl : v.length < u.length) (hm : m = u.length) (lv : pre.length + u.length ≤ 200000) :
    DLend Tryd.prog 55 [.bsl 62705706376413983192932485137940986937884566817559884303787719047888900688851843143864471152753692283952033148481586190617316153647706554688546833642147551178398414506059224584003254872599754021256875212800007 pre.length m m, wsD v] [(62705706376413983192932485137940986937884566817559884303787719047888900688851843143864471152753692283952033148481586190617316153647706554688546833642147551178398414506059224584003254872599754021256875212800007, some (.box (u32L (pre ++ u))))] [(62705706376413983192932485137940986937884566817559884303787719047888900688851843143864471152753692283952033148481586190617316153647706554688546833642147551178398414506059224584003254872599754021256875212800007, some (.box (u32L (pre ++ bkR v u))))] (.tup []) := by
  have inv := bkS_inv hv hu hl
  have hst : ∀ j x, v[j]? = some x → bkS v u (j + 1) = ((bkS v u j).1.set j (((bkS v u j).1.getD j 0 + x + (bkS v u j).2) % 4294967296), ((bkS v u j).1.getD j 0 + x + (bkS v u j).2) / 4294967296) := fun j x hx => by
    have e : v.getD j 0 = x := by rw [List.getD_eq_getElem?_getD, hx]; rfl
    rw [← e]; rfl
  have hR : bkR v u = (bkS v u v.length).1.set v.length (((bkS v u v.length).1.getD v.length 0 + (bkS v u v.length).2) % 4294967296) := rfl
  refine DLend.enterA Tryd.func55 Tryd.ntmps55 ?_
  refine DW.walk ?_
  refine DW.loopA (fun j : Nat => bkD pre v (bkS v u j).1 m j (bkS v u j).2) (fun j => j ≤ v.length) (fun j => v.length - j) 0 ?_ (Nat.zero_le _)
  intro j hj
  have hi := inv j hj
  have hlen := hi.len
  have hc := hi.c1
  have ho : (bkS v u j).1[j]? = some ((bkS v u j).1[j]'(by rw [hlen]; omega)) := List.getElem?_eq_getElem _
  have hoB : ((bkS v u j).1[j]'(by rw [hlen]; omega)) < 4294967296 := hi.dg.at ho
  have hgD : (bkS v u j).1.getD j 0 = ((bkS v u j).1[j]'(by rw [hlen]; omega)) := by rw [List.getD_eq_getElem?_getD, ho]; rfl
  generalize ((bkS v u j).1[j]'(by rw [hlen]; omega)) = oo at *
  rcases Nat.lt_or_ge j v.length with hlt | hge
  · obtain ⟨y, hy⟩ : ∃ y, v[j]? = some y := ⟨_, List.getElem?_eq_getElem hlt⟩
    have hs := hst j y hy
    rw [hgD] at hs
    have hyB : y < 4294967296 := hv.at hy
    have h1 := part_u32 hy
    generalize hS : bkS v u j = S at *
    obtain ⟨out, c⟩ := S
    dsimp only at *
    have h2 := get_pre (pre := pre) ho
    have hk1 := keysOf_u32 (pre ++ out)
    have hll : (pre ++ out).length = pre.length + u.length := by rw [List.length_append, hlen]
    have hdiv : (oo + y + c) / 2 ^ 32 = (oo + y + c) / 4294967296 := rfl
    clear hi inv hst hR hu hv
    refine DW.walk ?_
    rw [put_pre _ _ _ _ (by rw [hlen]; omega), hdiv]
    refine ⟨j + 1, by omega, by omega, ?_⟩
    rw [hs]
    exact Sub.auto
  · obtain rfl : j = v.length := by omega
    rw [hgD] at hR
    rw [hR]
    generalize hS : bkS v u v.length = S at *
    obtain ⟨out, c⟩ := S
    dsimp only at *
    have h2 := get_pre (pre := pre) ho
    have hk1 := keysOf_u32 (pre ++ out)
    have hll : (pre ++ out).length = pre.length + u.length := by rw [List.length_append, hlen]
    clear hi inv hst hR hu hv
    have hadd : IntKind.u32.wrap ((oo : Int) + (c : Int)) = (((oo + c) % 4294967296 : Nat) : Int) := by rw [← Int.natCast_add]; exact Dm.wrap32 _
    refine DW.walk ?_
    rw [put_pre _ _ _ _ (by rw [hlen]; omega)]
    exact ⟨.inl rfl, ResL.unitA⟩
end Go.Proofs.YtebbekdebanabaaDoor
