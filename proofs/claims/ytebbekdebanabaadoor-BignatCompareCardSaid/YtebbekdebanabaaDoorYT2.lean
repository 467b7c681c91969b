/- Contracts over data: texts of numbers, the groups turned about. No condition. -/
import Derived.Test.YtebbekdebanabaaDoorYQ2
import Derived.Test.YtebbekdebanabaaDoorYFU
import Derived.Test.YtebbekdebanabaaDoorYNG
import Derived.Test.YtebbekdebanabaaDoorYW4

set_option linter.unusedSimpArgs false
set_option linter.unusedVariables false
set_option maxHeartbeats 4000000
set_option maxRecDepth 8000
namespace Go.Proofs.YtebbekdebanabaaDoor
open Go Go.RowKit Go.PP Go.Dm Go.Bn
theorem fmt68_d (u : Nat) (hu : u < 18446744073709551616) : DFun Tryd.prog 68 [.flat (.int .u64 (u : Nat)), .flat (.int .i64 10)] (strD (Lib.decDigits u)) := .intro fun M w vals hM hv hgl => by
  simp only [RepL, Rep] at hv
  obtain ⟨_, _, rfl, rfl, _, _, rfl, rfl, rfl⟩ := hv
  exact (fmtU68 u hu w (gl_tab hgl)).mono fun e w' ⟨q1, k, os, q2⟩ => by
    subst q2
    exact ⟨_, q1, by simp only [Rep], Mut.of_below (Lib.below_grow w.heap.size w (Nat.le_refl _) k os) _⟩
theorem fmtU_d (u : Nat) (hu : u < 18446744073709551616) : DFun Tryd.prog 58 [.flat (.int .u64 (u : Nat)), .flat (.int .i64 10)] (strD (Lib.decDigits u)) := by
  have h := fmt68_d u hu
  refine DFun.enterA Tryd.func58 Tryd.ntmps58 ?_
  refine DW.walk ?_
  exact ⟨.inr rfl, ResOk.one [] rfl rfl trivial (Vw.pers rfl)⟩
abbrev strL (l : List (List UInt8)) : List D := l.map strD
theorem strL_pers (l : List (List UInt8)) : persL (strL l) = true := persL_map (fun _ => rfl) l
theorem part_str {l : List (List UInt8)} {i : Nat} {d : List UInt8} (h : l[i]? = some d) : partD false 1 (i * 1) (strL l) = some (strD d) := by
  simp [partD, h]
def putS (l : List (List UInt8)) (i : Nat) (d : List UInt8) : List (List UInt8) := l.take i ++ [d] ++ l.drop (i + 1)
theorem putS_set {l : List (List UInt8)} {i : Nat} (h : i < l.length) (d : List UInt8) : putS l i d = l.set i d := by
  unfold putS
  rw [List.append_assoc, List.singleton_append, List.set_eq_take_append_cons_drop, if_pos h]
instance {l : List (List UInt8)} {off : Nat} {d : List UInt8} : SplD (strL l) (off * 1) [.flat (.string ⟨d.toArray⟩)] (strL (putS l off d)) := ⟨by
  unfold spliceD putS
  rw [Nat.mul_one, List.length_singleton]
  show _ = List.map strD (_ ++ _ ++ _)
  rw [List.map_append, List.map_append, List.map_take, List.map_drop]; rfl⟩
theorem strL_len (l : List (List UInt8)) : (strL l).length = l.length := List.length_map ..
/-- What a reversal from both ends has done after i steps. -/
def revS (l : List (List UInt8)) : Nat → List (List UInt8)
  | 0 => l
  | i + 1 => (fun m => putS (putS m i (m.getD (l.length - 1 - i) [])) (l.length - 1 - i) (m.getD i [])) (revS l i)
theorem putS_len (l : List (List UInt8)) (i : Nat) (d : List UInt8) (h : i < l.length) : (putS l i d).length = l.length := by rw [putS_set h, List.length_set]
theorem revS_inv {l : List (List UInt8)} : ∀ i, 2 * i ≤ l.length → (revS l i).length = l.length ∧ ∀ k, k < l.length → (revS l i)[k]? = if k < i ∨ l.length ≤ k + i then l[l.length - 1 - k]? else l[k]?
  | 0, _ => ⟨rfl, fun k hk => by rw [if_neg (by omega)]; rfl⟩
  | i + 1, h => by
    obtain ⟨h1, h2⟩ := revS_inv (l := l) i (by omega)
    have e : revS l (i + 1) = putS (putS (revS l i) i ((revS l i).getD (l.length - 1 - i) [])) (l.length - 1 - i) ((revS l i).getD i []) := rfl
    rw [e, putS_set (by rw [putS_len _ _ _ (by omega)]; omega), putS_set (by omega)]
    refine ⟨by rw [List.length_set, List.length_set, h1], fun k hk => ?_⟩
    have ea := h2 i (by omega)
    have eb := h2 (l.length - 1 - i) (by omega)
    rw [if_neg (by omega)] at ea eb
    rw [List.getElem?_set, List.getElem?_set, List.length_set, h1]
    by_cases k1 : l.length - 1 - i = k
    · rw [if_pos k1, if_pos (by omega), if_pos (by omega), List.getD_eq_getElem?_getD, ea, show l.length - 1 - k = i by omega, List.getElem?_eq_getElem (by omega)]; rfl
    · rw [if_neg k1]
      by_cases k2 : i = k
      · rw [if_pos k2, if_pos (by omega), if_pos (by omega), List.getD_eq_getElem?_getD, eb, ← k2, List.getElem?_eq_getElem (by omega)]; rfl
      · rw [if_neg k2, h2 k hk]
        by_cases k3 : k < i ∨ l.length ≤ k + i
        · rw [if_pos k3, if_pos (by omega)]
        · rw [if_neg k3, if_neg (by omega)]
theorem revS_done {l : List (List UInt8)} {i : Nat} (h1 : 2 * i ≤ l.length) (h2 : l.length ≤ 2 * i + 1) : revS l i = l.reverse := by
  obtain ⟨q1, q2⟩ := revS_inv i h1
  apply List.ext_getElem?
  intro k
  rcases Nat.lt_or_ge k l.length with hk | hk
  · rw [q2 k hk, List.getElem?_reverse hk]
    split
    · rfl
    · congr 1; omega
  · rw [List.getElem?_eq_none (by omega), List.getElem?_eq_none (by simpa using hk)]
theorem rev_d (l : List (List UInt8)) (hl : l.length ≤ 1000000) : DLend Tryd.prog 60 [.own 26843545600009 l.length] [(26843545600009, some (.row 9 1 l.length (strL l)))] [(26843545600009, some (.row 9 1 l.length (strL l.reverse)))] (.tup []) := by
  refine DLend.enterA Tryd.func60 Tryd.ntmps60 ?_
  refine DW.walk ?_
  refine DW.loopA (fun i : Nat => ⟨[(0, .own 26843545600009 l.length), (2, .flat (.int .i64 (i : Nat))), (3, .flat (.int .i64 ((l.length : Int) - 1 - (i : Int))))], [(26843545600009, some (.row 9 1 l.length (strL (revS l i))))]⟩) (fun i => 2 * i ≤ l.length) (fun i => l.length - i) 0 ?_ (by omega)
  intro i hi
  obtain ⟨q1, q2⟩ := revS_inv (l := l) i hi
  by_cases hlt : 2 * i + 1 < l.length
  · have e : (l.length : Int) - 1 - (i : Int) = ((l.length - 1 - i : Nat) : Int) := by omega
    have hst : revS l (i + 1) = putS (putS (revS l i) i ((revS l i).getD (l.length - 1 - i) [])) (l.length - 1 - i) ((revS l i).getD i []) := rfl
    obtain ⟨x, hx⟩ : ∃ x, (revS l i)[i]? = some x := ⟨_, List.getElem?_eq_getElem (by omega)⟩
    obtain ⟨y, hy⟩ : ∃ y, (revS l i)[l.length - 1 - i]? = some y := ⟨_, List.getElem?_eq_getElem (by omega)⟩
    rw [List.getD_eq_getElem?_getD, List.getD_eq_getElem?_getD, hx, hy, Option.getD_some, Option.getD_some] at hst
    have h1 := part_str hx
    have h2 := part_str hy
    have hj : l.length - 1 - i < l.length := by omega
    have hij : i < l.length - 1 - i := by omega
    have hjj : l.length - (i + 1) < l.length - i := by omega
    have h5 : ((l.length - 1 - i : Nat) : Int) - 1 = (l.length : Int) - 1 - ((i + 1 : Nat) : Int) := by omega
    have hpl := putS_len (revS l i) i y (by omega)
    rw [e]
    generalize l.length - 1 - i = j at *
    generalize hm : revS l i = m at *
    refine DW.walk ?_
    rw [← hst]
    exact ⟨i + 1, by omega, hjj, Sub.auto⟩
  · rw [revS_done hi (by omega)]
    refine DW.walk ?_
    exact ⟨.inl rfl, ResL.unitA⟩
end Go.Proofs.YtebbekdebanabaaDoor

set_option linter.unusedSimpArgs false
set_option linter.unusedVariables false
set_option maxHeartbeats 4000000
set_option maxRecDepth 8000
namespace Go.Proofs.YtebbekdebanabaaDoor
open Go Go.RowKit Go.PP Go.Dm Go.Bn
theorem grp_cons {m : Nat} (h : m ≠ 0) : grpN m = (if m / 1000000000 = 0 then Lib.decDigits (m % 1000000000) else List.replicate (9 - (Lib.decDigits (m % 1000000000)).length) 48 ++ Lib.decDigits (m % 1000000000)) :: grpN (m / 1000000000) := by rw [grpN, dif_neg h]
theorem string_d (n : Nat) (hn : (dig BW n).length ≤ 100000) : DFun Tryd.prog 25 [natD n] (strD (Lib.decDigits n)) := by
  have hz := isz_d n
  by_cases h0 : n = 0
  · subst h0
    rw [decide_eq_true rfl] at hz
    have e0 : Lib.decDigits 0 = [48] := dec_small (by decide)
    rw [e0]
    refine DFun.enterA Tryd.func25 Tryd.ntmps25 ?_
    refine DW.walk ?_
    exact ⟨.inr rfl, ResOk.one [] rfl rfl trivial (Vw.pers rfl)⟩
  · rw [decide_eq_false h0] at hz
    have hgl : (grpN n).length ≤ 200000 := Nat.le_trans (grp_words (dig_up hBW n)) (by omega)
    refine DFun.enterA Tryd.func25 Tryd.ntmps25 ?_
    refine DW.walk ?_
    refine DW.sub (s' := ⟨[(1, .ref 1 0), (3, .own 26843545600009 0)], [(26843545600009, some (.row 9 1 0 [])), (1, some (.box [wsD (dig BW n)]))]⟩) (fun w0 M0 B0 a w h => (Sub.auto (f' := [(1, .ref 1 0), (3, .own 26843545600009 0)]) (σ' := [(26843545600009, some (.row 9 1 0 [])), (1, some (.box [wsD (dig BW n)]))])) w0 M0 B0 a w (Sub.adopt 3 26843545600009 9 1 rfl rfl rfl w0 M0 B0 a w h)) ?_
    refine DW.loopA (fun s : Nat × List (List UInt8) => ⟨[(1, .ref 1 0), (3, .own 26843545600009 s.2.length)], [(26843545600009, some (.row 9 1 s.2.length (strL s.2))), (1, some (.box [wsD (dig BW s.1)]))]⟩) (fun s => s.2 ++ grpN s.1 = grpN n ∧ (dig BW s.1).length ≤ 100000) (fun s => s.1) (n, []) ?_ ⟨List.nil_append _, hn⟩
    rintro ⟨m, gs⟩ ⟨hm, hl⟩
    have hl : (dig BW m).length ≤ 100000 := hl
    have hm : gs ++ grpN m = grpN n := hm
    have hzm := isz_d m
    have hgl2 := congrArg List.length hm
    rw [List.length_append] at hgl2
    dsimp only
    clear hz
    by_cases hm0 : m = 0
    · have hgs : gs = grpN n := by rw [← hm, hm0, grpN, dif_pos rfl, List.append_nil]
      have hlen : gs.length ≤ 200000 := by omega
      have hr := rev_d gs (by omega)
      have hfl := flat_len (l := gs.reverse) (fun g hg => grp_el n g (by rw [← hgs]; exact List.mem_reverse.1 hg))
      rw [List.length_reverse] at hfl
      have hj := joins_d gs.reverse [] (by rw [List.length_reverse]; omega) (by rw [join_nil']; omega)
      have htx : Lib.join gs.reverse [] = Lib.decDigits n := by rw [join_nil', hgs, grp_text n h0]
      rw [htx] at hj
      have hj : DFun Tryd.prog 61 [.sl false 1 gs.length (strL gs.reverse), strD []] (strD (Lib.decDigits n)) := by
        have e : strsD gs.reverse = .sl false 1 gs.length (strL gs.reverse) := by unfold strsD; rw [List.length_reverse]
        rw [← e]; exact hj
      rw [decide_eq_true hm0] at hzm
      clear hm hl hgl2 hfl htx hgs
      refine DW.walk ?_
      exact ⟨.inr rfl, ResOk.one [] rfl rfl trivial (Vw.pers rfl)⟩
    · rw [decide_eq_false hm0] at hzm
      have hgc := grp_cons hm0
      have hs := short_d m 1000000000 (by decide) (by decide) hl
      have hrB : m % 1000000000 < 1000000000 := Nat.mod_lt _ (by decide)
      have hf := fmtU_d (m % 1000000000) (by omega)
      have hd9 := dec_len9 hrB
      have hz2 := isz_d (m / 1000000000)
      have hql : (dig BW (m / 1000000000)).length ≤ 100000 := Nat.le_trans (dig_len hBW (Nat.lt_of_le_of_lt (Nat.div_le_self _ _) (dig_up hBW m))) hl
      have hlt : m / 1000000000 < m := Nat.div_lt_self (by omega) (by decide)
      have hgn : gs.length + 1 ≤ 200000 := by rw [hgc, List.length_cons] at hgl2; omega
      have hg2 : (gs ++ [if m / 1000000000 = 0 then Lib.decDigits (m % 1000000000) else List.replicate (9 - (Lib.decDigits (m % 1000000000)).length) 48 ++ Lib.decDigits (m % 1000000000)]) ++ grpN (m / 1000000000) = grpN n := by rw [← hm, hgc, List.append_assoc]; rfl
      have hmap : ∀ x : List UInt8, strL gs ++ [strD x] = strL (gs ++ [x]) := fun x => by
        show _ = List.map strD (_ ++ _)
        rw [List.map_append]; rfl
      have hlen1 : ∀ x : List UInt8, (gs ++ [x]).length = gs.length + 1 := fun x => by rw [List.length_append, List.length_singleton]
      clear hm hl hgl2 hgc hgl
      generalize hq : m / 1000000000 = q at *
      generalize hr : m % 1000000000 = r at *
      generalize hd : Lib.decDigits r = d at *
      by_cases hq0 : q = 0
      · rw [decide_eq_true hq0] at hz2
        rw [if_pos hq0] at hg2
        refine DW.walk ?_
        rw [hmap]
        refine ⟨(q, gs ++ [d]), ⟨hg2, hql⟩, hlt, ?_⟩
        rw [← hlen1 d]
        exact Sub.auto
      · rw [decide_eq_false hq0] at hz2
        rw [if_neg hq0] at hg2
        have hrep := repeat_d [48] (9 - d.length) (by omega) (by decide)
        rw [rep_one] at hrep
        have hrep : DFun Tryd.prog 59 [strD [48], .flat (.int .i64 (9 - (d.length : Int)))] (strD (List.replicate (9 - d.length) 48)) := by
          have e : (9 : Int) - (d.length : Int) = ((9 - d.length : Nat) : Int) := by omega
          rw [e]; exact hrep
        have hrl : (List.replicate (9 - d.length) (48 : UInt8)).length ≤ 9 := by rw [List.length_replicate]; omega
        generalize List.replicate (9 - d.length) (48 : UInt8) = z at *
        refine DW.walk ?_
        rw [hmap]
        refine ⟨(q, gs ++ [z ++ d]), ⟨hg2, hql⟩, hlt, ?_⟩
        rw [← hlen1 (z ++ d)]
        exact Sub.auto
end Go.Proofs.YtebbekdebanabaaDoor
