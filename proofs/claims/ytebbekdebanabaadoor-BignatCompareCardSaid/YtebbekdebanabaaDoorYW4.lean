/- Contracts over data: words: trim, word, join. No condition. -/
import Derived.Test.YtebbekdebanabaaDoorYA
import Derived.Test.YtebbekdebanabaaDoorYNG
import Derived.Test.YtebbekdebanabaaDoorXSl

set_option linter.unusedSimpArgs false
set_option linter.unusedVariables false
set_option maxHeartbeats 4000000
set_option maxRecDepth 8000
namespace Go.Proofs.YtebbekdebanabaaDoor
open Go Go.RowKit Go.PP Go.Dm Go.Bn
abbrev BW : Nat := 4294967296
abbrev u32D (d : Nat) : D := .flat (.int .u32 (d : Nat))
abbrev u32L (l : List Nat) : List D := l.map u32D
abbrev wsD (l : List Nat) : D := .sl false 1 l.length (u32L l)
abbrev natW (l : List Nat) : D := .agg [wsD l]
theorem u32L_pers (l : List Nat) : persL (u32L l) = true := persL_map (fun _ => rfl) l
theorem part_u32 {l : List Nat} {i d : Nat} (h : l[i]? = some d) : partD false 1 (i * 1) (u32L l) = some (.flat (.int .u32 (d : Nat))) := by
  simp [partD, h]
theorem u32L_take (l : List Nat) (j : Nat) : (u32L l).take j = u32L (l.take j) := (List.map_take ..).symm
theorem u32L_drop (l : List Nat) (j : Nat) : (u32L l).drop j = u32L (l.drop j) := (List.map_drop ..).symm
theorem u32L_len (l : List Nat) : (u32L l).length = l.length := List.length_map ..
theorem ret25 {fn : Func} {s : DS} {x : Tmp} {id : Nat} {d d' : D} (hr : fn.results = #[.cell x 25]) (hx : lkF s.f x = .ref id 0) (hi : lkE s.σ id = some (.box [d])) (hv : Vw [] d d') (hk : keysOf [d] = none := by rfl) : ResOk Tryd.prog fn s (.agg [d']) :=
  ResOk.cellA [] hr hx hi ag25 sz25 trivial (VwL.cons hv VwL.nil) (Le.refl _) hk
theorem lst_take (l : List Nat) {j k : Nat} (h : k ≤ j) : ((u32L l).take j).take (k * 1) = (u32L l).take k := by rw [List.take_take, Nat.mul_one, Nat.min_eq_left h]
theorem wsD_take (l : List Nat) {j : Nat} (h : j ≤ l.length) : D.sl false 1 j ((u32L l).take j) = wsD (l.take j) := by
  show _ = D.sl false 1 (l.take j).length (u32L (l.take j))
  rw [List.length_take, Nat.min_eq_left h, u32L_take]
theorem trim_d (l : List Nat) (h : l.length ≤ 1000000) : DFun Tryd.prog 45 [wsD l] (natW (trimR l)) := by
  refine DFun.enterA Tryd.func45 Tryd.ntmps45 ?_
  refine DW.walk ?_
  have hl0 : D.sl false 1 l.length (u32L l) = D.sl false 1 l.length ((u32L l).take l.length) := by rw [u32L_take, List.take_length]
  refine DW.loopA (fun j : Nat => ⟨[(0, .sl false 1 j ((u32L l).take j)), (2, .ref 2 0)], [(2, some (.box [.flat (.slice none 0 0)]))]⟩) (fun j => j ≤ l.length ∧ trimR (l.take j) = trimR l) (fun j => j) l.length ?_ ⟨Nat.le_refl _, by rw [List.take_length]⟩
  · rintro j ⟨hj, ht⟩
    by_cases h0 : j = 0
    · subst h0
      refine DW.walk ?_
      refine ⟨.inr rfl, ret25 rfl rfl rfl (Vw.le (Vw.pers rfl) (Le.of_eq ?_))⟩
      rw [← ht]; rfl
    · obtain ⟨d, hd⟩ : ∃ d, l[j - 1]? = some d := ⟨_, List.getElem?_eq_getElem (by omega)⟩
      have h1 : partD false 1 ((j - 1) * 1) ((u32L l).take j) = some (.flat (.int .u32 (d : Nat))) := by
        rw [u32L_take]
        exact part_u32 (by rw [List.getElem?_take_of_lt (by omega)]; exact hd)
      have htk : l.take j = l.take (j - 1) ++ [d] := by
        have := List.take_add_one (l := l) (i := j - 1)
        rw [hd, Option.toList_some, show j - 1 + 1 = j by omega] at this
        exact this
      by_cases hz : d = 0
      · subst hz
        refine DW.walk ?_
        have e1 := lst_take l (j := j) (k := j - 1) (by omega)
        refine ⟨j - 1, ⟨by omega, ?_⟩, by omega, ?_⟩
        · rw [← ht, htk, trimR_zero]
        · rw [e1]; exact Sub.auto
      · refine DW.walk ?_
        refine ⟨.inr rfl, ret25 rfl rfl rfl (Vw.le (Vw.pers rfl) (Le.of_eq ?_))⟩
        rw [← ht, trimR_stop (l := l.take j) (fun x hx => by
          rw [htk, List.getLast?_append, List.getLast?_singleton] at hx
          have hx : d = x := Option.some.inj hx
          rw [← hx]; exact hz), wsD_take l hj]
/-- The word at a place; 0 beyond the last. -/
theorem word_d (l : List Nat) (i : Nat) (h : l.length ≤ 1000000) (hi : i ≤ 1000000) (hl : Dg BW l) : DFun Tryd.prog 46 [natW l, .flat (.int .i64 (i : Nat))] (.flat (.int .u64 (atD l i : Nat))) := by
  refine DFun.enterA Tryd.func46 Tryd.ntmps46 ?_
  rcases Nat.lt_or_ge i l.length with hlt | hge
  · obtain ⟨d, hd⟩ : ∃ d, l[i]? = some d := ⟨_, List.getElem?_eq_getElem hlt⟩
    rw [atD_in hd]
    have h1 := part_u32 hd
    have hb : d < 4294967296 := hl.at hd
    refine DW.walk ?_
    exact ⟨.inr rfl, ResOk.one [] rfl rfl trivial (Vw.pers rfl)⟩
  · rw [atD_out hge]
    refine DW.walk ?_
    exact ⟨.inr rfl, ResOk.one [] rfl rfl trivial (Vw.pers rfl)⟩
end Go.Proofs.YtebbekdebanabaaDoor

set_option linter.unusedSimpArgs false
set_option linter.unusedVariables false
set_option maxHeartbeats 4000000
set_option maxRecDepth 8000
namespace Go.Proofs.YtebbekdebanabaaDoor
open Go Go.RowKit Go.PP Go.Dm Go.Bn
/-- The words that a function gives from right to left, and the last carry. -/
theorem join_d (n k : Nat) (cap : List D) (x c : Nat → Nat) (hn : n ≤ 1000000) (hp : persL cap = true) (hE : Enters Tryd.prog k) (h0 : c 0 = 0) (hc : ∀ i, c i < 4294967296) (hx : ∀ i, x i < 4294967296)
    (h : ∀ i, i < n → DFun Tryd.prog k ([.flat (.int .i64 (i : Nat)), .flat (.int .u64 (c i : Nat))] ++ cap) (.tup [.flat (.int .u32 (x i : Nat)), .flat (.int .u64 (c (i + 1) : Nat))])) :
    DFun Tryd.prog 47 [.flat (.int .i64 (n : Nat)), .clo (.func k) [] cap] (wsD ((List.range n).map x ++ if c n = 0 then [] else [c n])) := by
  refine DFun.enterA Tryd.func47 Tryd.ntmps47 ?_
  refine DW.walk ?_
  have hsn : ∀ j, u32L ((List.range j).map x) ++ [.flat (.int .u32 (x j : Nat))] = u32L ((List.range (j + 1)).map x) := fun j => by
    rw [List.range_succ, List.map_append]
    show _ = List.map u32D (_ ++ _)
    rw [List.map_append]; rfl
  refine DW.loopA (fun j : Nat => ⟨[(0, .flat (.int .i64 (n : Nat))), (1, .clo (.func k) [] cap), (5, .own 11 j), (6, .flat (.int .u64 (c j : Nat))), (12, .flat (.int .i64 (n : Nat))), (13, .flat (.int .i64 (j : Nat)))], [(11, some (.row 22 1 j (u32L ((List.range j).map x))))]⟩) (fun j => j ≤ n) (fun j => n - j) 0 ?_ (Nat.zero_le _)
  · intro j hj
    rcases Nat.lt_or_ge j n with hlt | hge
    · have h1 := h j hlt
      have h2 := hc j
      have h3 := hx j
      have h4 := hsn j
      generalize hX : u32L ((List.range j).map x) = X at *
      refine DW.walk ?_
      subst hX
      rw [h4]
      exact ⟨j + 1, by omega, by omega, Sub.auto⟩
    · have hje : j = n := by omega
      subst hje
      have h2 := hc j
      by_cases h0 : c j = 0
      · rw [if_pos h0, List.append_nil]
        refine DW.walk ?_
        exact ⟨.inr rfl, ResOk.one [(11, some (.row 22 1 _ _))] rfl rfl ⟨rfl, trivial⟩ (Vw.le (Vw.own (.head _) (VwL.pers (u32L_pers _))) (Le.of_eq (by unfold wsD; rw [List.length_map, List.length_range])))⟩
      · rw [if_neg h0]
        have e1 : u32L ((List.range j).map x) ++ [.flat (.int .u32 (c j : Nat))] = u32L ((List.range j).map x ++ [c j]) := by
          show _ = List.map u32D (_ ++ _)
          rw [List.map_append]; rfl
        refine DW.walk ?_
        exact ⟨.inr rfl, ResOk.one [(11, some (.row 22 1 _ _))] rfl rfl ⟨rfl, trivial⟩ (Vw.le (Vw.own (.head _) (VwL.pers (by rw [e1]; exact u32L_pers _))) (Le.of_eq (by rw [e1]; unfold wsD; rw [List.length_append, List.length_map, List.length_range]; rfl)))⟩
end Go.Proofs.YtebbekdebanabaaDoor

set_option linter.unusedSimpArgs false
set_option linter.unusedVariables false
set_option maxHeartbeats 4000000
set_option maxRecDepth 8000
namespace Go.Proofs.YtebbekdebanabaaDoor
open Go Go.RowKit Go.PP Go.Dm Go.Bn
/-- A number. -/
abbrev natD (n : Nat) : D := natW (dig BW n)
theorem hBW : 2 ≤ BW := by decide
/-- The carries of a sum. -/
def addC (a b : List Nat) : Nat → Nat
  | 0 => 0
  | i + 1 => (atD a i + atD b i + addC a b i) / BW
def addX (a b : List Nat) (i : Nat) : Nat := (atD a i + atD b i + addC a b i) % BW
theorem add_inv {a b : List Nat} (ha : Dg BW a) (hb : Dg BW b) : ∀ i, AddI BW a b i ((List.range i).map (addX a b)) (addC a b i)
  | 0 => AddI.zero a b
  | i + 1 => by
    have h := (add_inv ha hb i).step hBW ha hb
    rw [List.range_succ, List.map_append]
    exact h
theorem add_out {a b : List Nat} (ha : Dg BW a) (hb : Dg BW b) {n : Nat} (h1 : a.length ≤ n) (h2 : b.length ≤ n) : trimR ((List.range n).map (addX a b) ++ if addC a b n = 0 then [] else [addC a b n]) = dig BW (val BW a + val BW b) := by
  have h := add_inv ha hb n
  by_cases h0 : addC a b n = 0
  · rw [if_pos h0, List.append_nil, trimR_dig hBW h.dg]
    rw [h0] at h
    rw [h.done h1 h2]
  · rw [if_neg h0, trimR_dig hBW (h.dg.snoc (by have := h.c1; unfold BW; omega)), h.carry h1 h2]
theorem addC_le {a b : List Nat} (ha : Dg BW a) (hb : Dg BW b) (i : Nat) : addC a b i ≤ 1 := (add_inv ha hb i).c1
theorem add_do (a b : List Nat) (i : Nat) (ha : Dg BW a) (hb : Dg BW b) (la : a.length ≤ 100000) (lb : b.length ≤ 100000) (hi : i ≤ 1000000) :
    DFun Tryd.prog 48 [.flat (.int .i64 (i : Nat)), .flat (.int .u64 (addC a b i : Nat)), .ptr [wsD a] 0, .ptr [wsD b] 0] (.tup [.flat (.int .u32 (addX a b i : Nat)), .flat (.int .u64 (addC a b (i + 1) : Nat))]) := by
  have w1 := word_d a i (by omega) hi ha
  have w2 := word_d b i (by omega) hi hb
  have e1 : addX a b i = (atD a i + atD b i + addC a b i) % 4294967296 := rfl
  have e2 : addC a b (i + 1) = (atD a i + atD b i + addC a b i) / 2 ^ 32 := rfl
  have h1 : atD a i < 4294967296 := atD_lt ha (by decide) i
  have h2 : atD b i < 4294967296 := atD_lt hb (by decide) i
  have h3 := addC_le ha hb i
  rw [e1, e2]
  generalize atD a i = x at *
  generalize atD b i = y at *
  generalize addC a b i = c at *
  refine DFun.enterA Tryd.func48 Tryd.ntmps48 ?_
  refine DW.walk ?_
  exact ⟨.inr rfl, ResOk.two [] rfl rfl rfl trivial (Vw.pers rfl) (Vw.pers rfl)⟩
theorem add_d (a b : List Nat) (ha : Dg BW a) (hb : Dg BW b) (la : a.length ≤ 100000) (lb : b.length ≤ 100000) : DFun Tryd.prog 15 [natW a, natW b] (natD (val BW a + val BW b)) := by
  have hj := join_d (max a.length b.length) 48 [.ptr [wsD a] 0, .ptr [wsD b] 0] (addX a b) (addC a b) (by omega) rfl EntC.h rfl (fun i => Nat.lt_of_le_of_lt (addC_le ha hb i) (by decide)) (fun i => Nat.mod_lt _ (by decide)) (fun i hi => add_do a b i ha hb la lb (by omega))
  have ho := add_out ha hb (n := max a.length b.length) (by omega) (by omega)
  have ht := trim_d ((List.range (max a.length b.length)).map (addX a b) ++ if addC a b (max a.length b.length) = 0 then [] else [addC a b (max a.length b.length)]) (by rw [List.length_append, List.length_map, List.length_range]; split <;> (simp; omega))
  rw [ho] at ht
  generalize ((List.range (max a.length b.length)).map (addX a b) ++ if addC a b (max a.length b.length) = 0 then [] else [addC a b (max a.length b.length)]) = L at *
  refine DFun.enterA Tryd.func15 Tryd.ntmps15 ?_
  have hmax : (if (b.length : Int) > (a.length : Int) then (b.length : Int) else (a.length : Int)) = ((max a.length b.length : Nat) : Int) := by
    split <;> omega
  refine DW.walkTo 1 ?_
  refine DW.sub (s' := ⟨[(2, .ptr [wsD a] 0), (3, .ptr [wsD b] 0), (4, .ref 4 0)], [(4, some (.box [.flat (.slice none 0 0)]))]⟩) Sub.auto ?_
  refine DW.walk ?_
  exact ⟨.inr rfl, ret25 rfl rfl rfl (Vw.pers rfl)⟩
end Go.Proofs.YtebbekdebanabaaDoor

set_option linter.unusedSimpArgs false
set_option linter.unusedVariables false
set_option maxHeartbeats 4000000
set_option maxRecDepth 8000
namespace Go.Proofs.YtebbekdebanabaaDoor
open Go Go.RowKit Go.PP Go.Dm Go.Bn
theorem from_list (n : Nat) (h : n < 18446744073709551616) : trimR [n % 4294967296, n / 4294967296] = dig BW n := by
  rw [trimR_dig hBW (B := BW) (by
    intro d hd
    simp only [List.mem_cons, List.not_mem_nil, or_false] at hd
    rcases hd with rfl | rfl <;> (show _ < 4294967296; omega))]
  congr 1
  show n % 4294967296 + 4294967296 * (n / 4294967296 + 4294967296 * 0) = n
  omega
theorem fromU_d (n : Nat) (h : n < 18446744073709551616) : DFun Tryd.prog 12 [.flat (.int .u64 (n : Nat))] (natD n) := by
  have ht := trim_d [n % 4294967296, n / 4294967296] (by simp)
  rw [from_list n h] at ht
  have e1 : n / 2 ^ 32 < 4294967296 := by omega
  have e2 : n / 2 ^ 32 = n / 4294967296 := rfl
  refine DFun.enterA Tryd.func12 Tryd.ntmps12 ?_
  refine DW.walk ?_
  exact ⟨.inr rfl, ret25 rfl rfl rfl (Vw.pers rfl)⟩
theorem isz_w (l : List Nat) : DFun Tryd.prog 21 [natW l] (.flat (.bool (decide (l = [])))) := by
  have e : (D.flat (.bool (decide ((l.length : Int) = 0)))) = .flat (.bool (decide (l = []))) := by
    congr 3
    have : (l.length : Int) = 0 ↔ l = [] := by rw [← List.length_eq_zero_iff]; omega
    exact propext this
  refine DFun.enterA Tryd.func21 Tryd.ntmps21 ?_
  refine DW.walk ?_
  exact ⟨.inr rfl, ResOk.one [] rfl rfl trivial (Vw.le (Vw.pers rfl) (Le.of_eq e))⟩
theorem isz_d (n : Nat) : DFun Tryd.prog 21 [natD n] (.flat (.bool (decide (n = 0)))) := by
  have h := isz_w (dig BW n)
  have e : decide (dig BW n = []) = decide (n = 0) := by congr 1; exact propext (dig_nil hBW)
  rwa [e] at h
theorem eql_w (a b : List Nat) (la : a.length ≤ 1000000) (lb : b.length ≤ 1000000) : DFun Tryd.prog 57 [wsD a, wsD b] (.flat (.bool (decide (a = b)))) := by
  refine DFun.enterA Tryd.func57 Tryd.ntmps57 ?_
  by_cases hl : a.length = b.length
  · refine DW.walk ?_
    refine DW.loopA (fun j : Nat => ⟨[(0, wsD a), (1, wsD b), (4, .flat (.bool false)), (12, .flat (.int .i64 (a.length : Nat))), (13, .flat (.int .i64 (j : Nat)))], []⟩) (fun j => j ≤ a.length ∧ a.take j = b.take j) (fun j => a.length - j) 0 ?_ ⟨Nat.zero_le _, rfl⟩
    rintro j ⟨hj, ht⟩
    rcases Nat.lt_or_ge j a.length with hlt | hge
    · obtain ⟨x, hx⟩ : ∃ x, a[j]? = some x := ⟨_, List.getElem?_eq_getElem hlt⟩
      obtain ⟨y, hy⟩ : ∃ y, b[j]? = some y := ⟨_, List.getElem?_eq_getElem (by omega)⟩
      have h1 := part_u32 hx
      have h2 := part_u32 hy
      by_cases hxy : x = y
      · subst hxy
        refine DW.walk ?_
        exact ⟨j + 1, ⟨by omega, by rw [List.take_add_one, List.take_add_one, ht, hx, hy]⟩, by omega, Sub.auto⟩
      · rw [decide_eq_false (fun e => hxy (by rw [e, hy] at hx; exact (Option.some.inj hx).symm))]
        have h3 : ¬ (x : Int) = (y : Int) := by omega
        refine DW.walk ?_
        exact ⟨.inr rfl, ResOk.one [] rfl rfl trivial (Vw.pers rfl)⟩
    · rw [List.take_of_length_le hge, List.take_of_length_le (by omega)] at ht
      rw [decide_eq_true ht]
      refine DW.walk ?_
      exact ⟨.inr rfl, ResOk.one [] rfl rfl trivial (Vw.pers rfl)⟩
  · rw [decide_eq_false (fun e => hl (congrArg List.length e))]
    refine DW.walk ?_
    exact ⟨.inr rfl, ResOk.one [] rfl rfl trivial (Vw.pers rfl)⟩
theorem dig_inj {m n : Nat} : dig BW m = dig BW n ↔ m = n := by
  constructor
  · intro h
    rw [← val_dig hBW m, h, val_dig hBW]
  · rintro rfl; rfl
theorem equal_d (m n : Nat) (la : (dig BW m).length ≤ 1000000) (lb : (dig BW n).length ≤ 1000000) : DFun Tryd.prog 23 [natD m, natD n] (.flat (.bool (decide (m = n)))) := by
  have h := eql_w (dig BW m) (dig BW n) la lb
  have e : decide (dig BW m = dig BW n) = decide (m = n) := by congr 1; exact propext dig_inj
  rw [e] at h
  refine DFun.enterA Tryd.func23 Tryd.ntmps23 ?_
  refine DW.walk ?_
  exact ⟨.inr rfl, ResOk.one [] rfl rfl trivial (Vw.pers rfl)⟩
end Go.Proofs.YtebbekdebanabaaDoor
