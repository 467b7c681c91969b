/- Contracts over data: the reference: trim. No condition. -/
import Derived.Test.YtebbekdebanabaaDoorYM1
import Derived.Test.YtebbekdebanabaaDoorYFU
import Derived.Test.YtebbekdebanabaaDoorYNG
import Derived.Test.YtebbekdebanabaaDoorYV5

set_option linter.unusedSimpArgs false
set_option linter.unusedVariables false
set_option maxHeartbeats 4000000
set_option maxRecDepth 8000
namespace Go.Proofs.YtebbekdebanabaaDoor
open Go Go.RowKit Go.PP Go.Dm Go.Bn
abbrev i64D (d : Nat) : D := .flat (.int .i64 (d : Nat))
abbrev idL (l : List Nat) : List D := l.map i64D
abbrev isD (l : List Nat) : D := .sl false 1 l.length (idL l)
abbrev refD (n : Nat) : D := isD (dig 10 n)
theorem idL_pers (l : List Nat) : persL (idL l) = true := persL_map (fun _ => rfl) l
theorem part_id {l : List Nat} {i d : Nat} (h : l[i]? = some d) : partD false 1 (i * 1) (idL l) = some (.flat (.int .i64 (d : Nat))) := by
  simp [partD, h]
theorem idL_take (l : List Nat) (j : Nat) : (idL l).take j = idL (l.take j) := (List.map_take ..).symm
theorem idL_drop (l : List Nat) (j : Nat) : (idL l).drop j = idL (l.drop j) := (List.map_drop ..).symm
theorem idL_len (l : List Nat) : (idL l).length = l.length := List.length_map ..
theorem ilst_take (l : List Nat) {j k : Nat} (h : k ≤ j) : ((idL l).take j).take (k * 1) = (idL l).take k := by rw [List.take_take, Nat.mul_one, Nat.min_eq_left h]
theorem isD_take (l : List Nat) {j : Nat} (h : j ≤ l.length) : D.sl false 1 j ((idL l).take j) = isD (l.take j) := by
  show _ = D.sl false 1 (l.take j).length (idL (l.take j))
  rw [List.length_take, Nat.min_eq_left h, idL_take]
theorem hB10 : 2 ≤ 10 := by decide
instance {l : List Nat} : PersL (idL l) := ⟨idL_pers l⟩
instance {l : List Nat} {off d : Nat} : SplD (idL l) (off * 1) [.flat (.int .i64 (d : Nat))] (idL (putN l off d)) := ⟨by
  unfold spliceD putN
  rw [Nat.mul_one, idL_take, List.length_singleton, idL_drop]
  show _ = List.map i64D (_ ++ _ ++ _)
  rw [List.map_append, List.map_append]; rfl⟩
instance {l : List Nat} {off d : Nat} : SplD (idL l) off [.flat (.int .i64 (d : Nat))] (idL (putN l off d)) := ⟨by
  unfold spliceD putN
  rw [idL_take, List.length_singleton, idL_drop]
  show _ = List.map i64D (_ ++ _ ++ _)
  rw [List.map_append, List.map_append]; rfl⟩
theorem idL_rep (n : Nat) : List.replicate n (D.flat (.int .i64 0)) = idL (List.replicate n 0) := by
  show _ = List.map i64D _
  rw [List.map_replicate]; rfl
theorem trim10_d (l : List Nat) (h : l.length ≤ 1000000) : DFun Tryd.prog 56 [isD l] (isD (trimR l)) := by
  refine DFun.enterA Tryd.func56 Tryd.ntmps56 ?_
  refine DW.walk ?_
  have hl0 : D.sl false 1 l.length (idL l) = D.sl false 1 l.length ((idL l).take l.length) := by rw [idL_take, List.take_length]
  refine DW.loopA (fun j : Nat => ⟨[(0, .sl false 1 j ((idL l).take j))], []⟩) (fun j => j ≤ l.length ∧ trimR (l.take j) = trimR l) (fun j => j) l.length ?_ ⟨Nat.le_refl _, by rw [List.take_length]⟩
  · rintro j ⟨hj, ht⟩
    by_cases h0 : j = 0
    · subst h0
      refine DW.walk ?_
      refine ⟨.inr rfl, ResOk.one [] rfl rfl trivial (Vw.le (Vw.pers rfl) (Le.of_eq ?_))⟩
      rw [← ht]; rfl
    · obtain ⟨d, hd⟩ : ∃ d, l[j - 1]? = some d := ⟨_, List.getElem?_eq_getElem (by omega)⟩
      have h1 : partD false 1 ((j - 1) * 1) ((idL l).take j) = some (.flat (.int .i64 (d : Nat))) := by
        rw [idL_take]
        exact part_id (by rw [List.getElem?_take_of_lt (by omega)]; exact hd)
      have htk : l.take j = l.take (j - 1) ++ [d] := by
        have := List.take_add_one (l := l) (i := j - 1)
        rw [hd, Option.toList_some, show j - 1 + 1 = j by omega] at this
        exact this
      by_cases hz : d = 0
      · subst hz
        refine DW.walk ?_
        have e1 := ilst_take l (j := j) (k := j - 1) (by omega)
        refine ⟨j - 1, ⟨by omega, ?_⟩, by omega, ?_⟩
        · rw [← ht, htk, trimR_zero]
        · rw [e1]; exact Sub.auto
      · refine DW.walk ?_
        refine ⟨.inr rfl, ResOk.one [] rfl rfl trivial (Vw.le (Vw.pers rfl) (Le.of_eq ?_))⟩
        rw [← ht, trimR_stop (l := l.take j) (fun x hx => by
          rw [htk, List.getLast?_append, List.getLast?_singleton] at hx
          have hx : d = x := Option.some.inj hx
          rw [← hx]; exact hz), isD_take l hj]
        rfl
end Go.Proofs.YtebbekdebanabaaDoor

set_option linter.unusedSimpArgs false
set_option linter.unusedVariables false
set_option maxHeartbeats 4000000
set_option maxRecDepth 8000
namespace Go.Proofs.YtebbekdebanabaaDoor
open Go Go.RowKit Go.PP Go.Dm Go.Bn
abbrev byD (l : List UInt8) : D := .sl false 1 l.length (bD l)
/-- The digits that bytes stand for. -/
def dgs (bs : List UInt8) : List Nat := (bs.map fun b => b.toNat % 10).reverse
def numB (bs : List UInt8) : Nat := val 10 (dgs bs)
theorem dgs_dg (bs : List UInt8) : Dg 10 (dgs bs) := fun d hd => by
  obtain ⟨b, _, rfl⟩ := List.mem_map.1 (List.mem_reverse.1 hd)
  exact Nat.mod_lt _ (by decide)
theorem dgs_len (bs : List UInt8) : (dgs bs).length = bs.length := by unfold dgs; rw [List.length_reverse, List.length_map]
theorem numB_lt (bs : List UInt8) : numB bs < 10 ^ bs.length := by
  have := val_lt (dgs_dg bs)
  rwa [dgs_len] at this
theorem dgs_step {bs : List UInt8} {i : Nat} {b : UInt8} (h : bs[i]? = some b) : putN (List.replicate (bs.length - i) 0 ++ dgs (bs.take i)) (bs.length - 1 - i) (b.toNat % 10) = List.replicate (bs.length - (i + 1)) 0 ++ dgs (bs.take (i + 1)) := by
  have hi := (List.getElem?_eq_some_iff.1 h).1
  have e : dgs (bs.take (i + 1)) = b.toNat % 10 :: dgs (bs.take i) := by
    unfold dgs
    rw [List.take_add_one, h, Option.toList_some, List.map_append, List.reverse_append]; rfl
  unfold putN
  rw [e, show bs.length - i = (bs.length - 1 - i) + 1 by omega, List.replicate_succ', show bs.length - (i + 1) = bs.length - 1 - i by omega]
  have hl : (List.replicate (bs.length - 1 - i) 0).length = bs.length - 1 - i := List.length_replicate
  rw [List.append_assoc (List.replicate _ 0), List.take_append_of_le_length (by omega), List.take_of_length_le (by omega), List.drop_append, hl, List.drop_of_length_le (by omega)]
  rw [show bs.length - 1 - i + 1 - (bs.length - 1 - i) = 1 by omega]
  simp
theorem bD_at {l : List UInt8} {i : Nat} {b : UInt8} (h : l[i]? = some b) : partD false 1 (i * 1) (bD l) = some (.flat (.int .u8 (b.toNat : Nat))) := by
  simp [partD, bD, h]
theorem digits_d (bs : List UInt8) (hl : bs.length ≤ 100000) : DFun Tryd.prog 20 [byD bs] (refD (numB bs)) := by
  have ht := trim10_d (dgs bs) (by rw [dgs_len]; omega)
  rw [trimR_dig hB10 (dgs_dg bs)] at ht
  have ht : DFun Tryd.prog 56 [.sl false 1 bs.length (idL (dgs bs))] (refD (numB bs)) := by
    have := dgs_len bs
    rw [← this]; exact ht
  refine DFun.enterA Tryd.func20 Tryd.ntmps20 ?_
  refine DW.walkTo 2 ?_
  have e0 : List.replicate bs.length 0 = List.replicate (bs.length - 0) 0 ++ dgs (bs.take 0) := by rw [List.take_zero, Nat.sub_zero]; exact (List.append_nil _).symm
  rw [idL_rep, e0]
  refine DW.sub (s' := ⟨[(0, byD bs), (3, .own 7 bs.length)], [(7, some (.row 3 1 bs.length (idL (List.replicate (bs.length - 0) 0 ++ dgs (bs.take 0)))))]⟩) Sub.auto ?_
  refine DW.walk ?_
  refine DW.loopA (fun i : Nat => ⟨[(0, byD bs), (3, .own 7 bs.length), (4, .flat (.int .i64 (i : Nat)))], [(7, some (.row 3 1 bs.length (idL (List.replicate (bs.length - i) 0 ++ dgs (bs.take i)))))]⟩) (fun i => i ≤ bs.length) (fun i => bs.length - i) 0 ?_ (Nat.zero_le _)
  intro i hi
  rcases Nat.lt_or_ge i bs.length with hlt | hge
  · obtain ⟨b, hb⟩ : ∃ b, bs[i]? = some b := ⟨_, List.getElem?_eq_getElem hlt⟩
    have h1 := bD_at hb
    have hb2 := UInt8.toNat_lt b
    have hst := dgs_step hb
    refine DW.walk ?_
    rw [show ((bs.length : Int) - 1 - (i : Int)).toNat = bs.length - 1 - i by omega, hst]
    exact ⟨i + 1, by omega, by omega, Sub.auto⟩
  · obtain rfl : i = bs.length := by omega
    rw [Nat.sub_self, List.replicate_zero, List.nil_append, List.take_length]
    refine DW.walkTo 6 ?_
    refine DW.sub (s' := ⟨[(3, .sl false 1 bs.length (idL (dgs bs)))], []⟩) Sub.auto ?_
    refine DW.walk ?_
    exact ⟨.inr rfl, ResOk.one [] rfl rfl trivial (Vw.pers rfl)⟩
end Go.Proofs.YtebbekdebanabaaDoor

set_option linter.unusedSimpArgs false
set_option linter.unusedVariables false
set_option maxHeartbeats 4000000
set_option maxRecDepth 8000
namespace Go.Proofs.YtebbekdebanabaaDoor
open Go Go.RowKit Go.PP Go.Dm Go.Bn
/-- A byte put into a place. -/
def putB (l : List UInt8) (i : Nat) (b : UInt8) : List UInt8 := l.take i ++ [b] ++ l.drop (i + 1)
theorem bD_take (l : List UInt8) (j : Nat) : (bD l).take j = bD (l.take j) := (List.map_take ..).symm
theorem bD_drop (l : List UInt8) (j : Nat) : (bD l).drop j = bD (l.drop j) := (List.map_drop ..).symm
theorem bD_rep (n : Nat) : List.replicate n (D.flat (.int .u8 0)) = bD (List.replicate n 0) := by
  unfold bD
  rw [List.map_replicate]; rfl
instance {l : List UInt8} {off n : Nat} : SplD (bD l) (off * 1) [.flat (.int .u8 ((n % 256 : Nat) : Int))] (bD (putB l off (UInt8.ofNat n))) := ⟨by
  unfold spliceD putB
  rw [Nat.mul_one, bD_take, List.length_singleton, bD_drop]
  unfold bD
  rw [List.map_append, List.map_append, List.map_singleton, UInt8.toNat_ofNat']⟩
instance {l : List UInt8} : PersL (bD l) := ⟨persL_map (fun _ => rfl) l⟩
theorem bytes_step {l : List Nat} {i d : Nat} (h : l[i]? = some d) : putB (List.replicate (l.length - i) 0 ++ bytesOf (l.take i)) (l.length - 1 - i) (UInt8.ofNat (48 + d)) = List.replicate (l.length - (i + 1)) 0 ++ bytesOf (l.take (i + 1)) := by
  have hi := (List.getElem?_eq_some_iff.1 h).1
  have e : bytesOf (l.take (i + 1)) = UInt8.ofNat (48 + d) :: bytesOf (l.take i) := by
    unfold bytesOf
    rw [List.take_add_one, h, Option.toList_some, List.reverse_append, List.map_append]; rfl
  unfold putB
  rw [e, show l.length - i = (l.length - 1 - i) + 1 by omega, List.replicate_succ', show l.length - (i + 1) = l.length - 1 - i by omega]
  have hl : (List.replicate (l.length - 1 - i) (0 : UInt8)).length = l.length - 1 - i := List.length_replicate
  rw [List.append_assoc (List.replicate _ _), List.take_append_of_le_length (by omega), List.take_of_length_le (by omega), List.drop_append, hl, List.drop_of_length_le (by omega)]
  rw [show l.length - 1 - i + 1 - (l.length - 1 - i) = 1 by omega]
  simp
theorem text_0 : DFun Tryd.prog 26 [isD []] (strD [48]) := by
  refine DFun.enterA Tryd.func26 Tryd.ntmps26 ?_
  refine DW.walk ?_
  exact ⟨.inr rfl, ResOk.one [] rfl rfl trivial (Vw.pers rfl)⟩
theorem text_l (l : List Nat) (hl : l.length ≤ 1000000) (h0 : 0 < l.length) (hd : Dg 10 l) : DFun Tryd.prog 26 [isD l] (strD (bytesOf l)) := by
  refine DFun.enterA Tryd.func26 Tryd.ntmps26 ?_
  refine DW.walkTo 4 ?_
  have e0 : List.replicate l.length (0 : UInt8) = List.replicate (l.length - 0) 0 ++ bytesOf (l.take 0) := by rw [List.take_zero, Nat.sub_zero]; exact (List.append_nil _).symm
  rw [bD_rep, e0]
  refine DW.sub (s' := ⟨[(0, isD l), (3, .own 10 l.length)], [(10, some (.row 5 1 l.length (bD (List.replicate (l.length - 0) 0 ++ bytesOf (l.take 0)))))]⟩) Sub.auto ?_
  refine DW.walk ?_
  refine DW.loopA (fun i : Nat => ⟨[(0, isD l), (3, .own 10 l.length), (4, .flat (.int .i64 (i : Nat)))], [(10, some (.row 5 1 l.length (bD (List.replicate (l.length - i) 0 ++ bytesOf (l.take i)))))]⟩) (fun i => i ≤ l.length) (fun i => l.length - i) 0 ?_ (Nat.zero_le _)
  intro i hi
  rcases Nat.lt_or_ge i l.length with hlt | hge
  · obtain ⟨d, hdd⟩ : ∃ d, l[i]? = some d := ⟨_, List.getElem?_eq_getElem hlt⟩
    have h1 := part_id hdd
    have hb2 : d < 10 := hd.at hdd
    have hst := bytes_step hdd
    have hsp : ∀ off : Nat, SplD (bD (List.replicate (l.length - i) 0 ++ bytesOf (l.take i))) (off * 1) [.flat (.int .u8 (48 + (d : Int)))] (bD (putB (List.replicate (l.length - i) 0 ++ bytesOf (l.take i)) off (UInt8.ofNat (48 + d)))) := fun off => by
      rw [show (48 + (d : Int)) = (((48 + d) % 256 : Nat) : Int) by omega]
      infer_instance
    have hlen : (bD (List.replicate (l.length - i) 0 ++ bytesOf (l.take i))).length = l.length := by
      unfold bD bytesOf
      rw [List.length_map, List.length_append, List.length_replicate, List.length_map, List.length_reverse, List.length_take]
      omega
    refine DW.walk ?_
    rw [show ((l.length : Int) - 1 - (i : Int)).toNat = l.length - 1 - i by omega, hst]
    exact ⟨i + 1, by omega, by omega, Sub.auto⟩
  · obtain rfl : i = l.length := by omega
    rw [Nat.sub_self, List.replicate_zero, List.nil_append, List.take_length]
    refine DW.walk ?_
    exact ⟨.inr rfl, ResOk.one [] rfl rfl trivial (Vw.pers rfl)⟩
theorem text_d (n : Nat) (hl : (dig 10 n).length ≤ 1000000) : DFun Tryd.prog 26 [refD n] (strD (Lib.decDigits n)) := by
  by_cases h : n = 0
  · subst h
    unfold refD
    rw [dig_zero, Lib.decDigits, dif_pos (by decide)]
    exact text_0
  · rw [← dec_text n h]
    exact text_l _ hl (List.length_pos_iff.2 fun e => h ((dig_nil hB10).1 e)) (dig_dg hB10 n)
end Go.Proofs.YtebbekdebanabaaDoor

set_option linter.unusedSimpArgs false
set_option linter.unusedVariables false
set_option maxHeartbeats 4000000
set_option maxRecDepth 8000
namespace Go.Proofs.YtebbekdebanabaaDoor
open Go Go.RowKit Go.PP Go.Dm Go.Bn
abbrev bssL (ls : List (List UInt8)) : List D := ls.map byD
theorem part_bss {ls : List (List UInt8)} {i : Nat} {b : List UInt8} (h : ls[i]? = some b) : partD false 1 (i * 1) (bssL ls) = some (byD b) := by
  simp [partD, h]
theorem bys_short (ls : List (List UInt8)) (hl : ls.length ≤ 1000) (hs : ∀ b ∈ ls, b.length ≤ 140737488351232) (v : Bool) (hv : if v then ∀ b ∈ ls, b.length ≤ 150 else ∃ b ∈ ls, 150 < b.length) : DFun Tryd.prog 18 [.sl false 1 ls.length (bssL ls)] (.flat (.bool v)) := by
  refine DFun.enterA Tryd.func18 Tryd.ntmps18 ?_
  refine DW.walk ?_
  refine DW.loopA (fun i : Nat => ⟨[(0, .sl false 1 ls.length (bssL ls)), (3, .flat (.int .i64 (i : Nat)))], []⟩) (fun i => i ≤ ls.length ∧ ∀ b ∈ ls.take i, b.length ≤ 150) (fun i => ls.length - i) 0 ?_ ⟨Nat.zero_le _, fun b hb => by cases hb⟩
  rintro i ⟨hi, ha⟩
  rcases Nat.lt_or_ge i ls.length with hlt | hge
  · obtain ⟨b, hb⟩ : ∃ b, ls[i]? = some b := ⟨_, List.getElem?_eq_getElem hlt⟩
    have h1 := part_bss hb
    have hbl := hs b (List.mem_of_getElem? hb)
    by_cases hbig : 150 < b.length
    · have hvf : v = false := by
        cases v with
        | false => rfl
        | true => exact absurd (hv b (List.mem_of_getElem? hb)) (by omega)
      subst hvf
      clear ha hs hv
      generalize bssL ls = L at *
      refine DW.walk ?_
      exact ⟨.inr rfl, ResOk.one [] rfl rfl trivial (Vw.pers rfl)⟩
    · have ha2 : ∀ c ∈ ls.take (i + 1), c.length ≤ 150 := by
        intro c hc
        rw [List.take_add_one, hb, Option.toList_some] at hc
        rcases List.mem_append.1 hc with hc | hc
        · exact ha c hc
        · rw [List.mem_singleton.1 hc]; omega
      clear ha hs hv
      refine DW.walk ?_
      exact ⟨i + 1, ⟨by omega, ha2⟩, by omega, Sub.auto⟩
  · obtain rfl : i = ls.length := by omega
    rw [List.take_length] at ha
    have hvt : v = true := by
      cases v with
      | true => rfl
      | false =>
        obtain ⟨b, hb, h⟩ := hv
        exact absurd (ha b hb) (by omega)
    subst hvt
    clear ha hs hv
    refine DW.walk ?_
    exact ⟨.inr rfl, ResOk.one [] rfl rfl trivial (Vw.pers rfl)⟩
/-- Are these few digits? -/
def fewB (l : List UInt8) : Bool := decide (l.length ≤ 150)
theorem few2_d (a b : List UInt8) (ha : a.length ≤ 140737488351232) (hb : b.length ≤ 140737488351232) : DFun Tryd.prog 18 [.sl false 1 2 [byD a, byD b]] (.flat (.bool (fewB a && fewB b))) := by
  refine bys_short [a, b] (by show 2 ≤ 1000; decide) (fun x hx => ?_) _ ?_
  · simp only [List.mem_cons, List.not_mem_nil, or_false] at hx
    rcases hx with rfl | rfl <;> assumption
  · unfold fewB
    by_cases h1 : a.length ≤ 150 <;> by_cases h2 : b.length ≤ 150 <;> simp [h1, h2] <;> omega
theorem few3_d (a b c : List UInt8) (ha : a.length ≤ 140737488351232) (hb : b.length ≤ 140737488351232) (hc : c.length ≤ 140737488351232) : DFun Tryd.prog 18 [.sl false 1 3 [byD a, byD b, byD c]] (.flat (.bool (fewB a && fewB b && fewB c))) := by
  refine bys_short [a, b, c] (by show 3 ≤ 1000; decide) (fun x hx => ?_) _ ?_
  · simp only [List.mem_cons, List.not_mem_nil, or_false] at hx
    rcases hx with rfl | rfl | rfl <;> assumption
  · unfold fewB
    by_cases h1 : a.length ≤ 150 <;> by_cases h2 : b.length ≤ 150 <;> by_cases h3 : c.length ≤ 150 <;> simp [h1, h2, h3] <;> omega
theorem few_pow {n : Nat} (hn : n ≤ 150) {m : Nat} (h : m < 10 ^ n) : m < 2 ^ 499 :=
  Nat.lt_of_lt_of_le h (Nat.le_trans (Nat.pow_le_pow_right (by decide) hn) (by decide +kernel))
theorem small_bits {m k : Nat} (h : m < 2 ^ (32 * k)) : (dig BW m).length ≤ k := dig_len hBW (by
  have e : BW = 2 ^ 32 := by decide
  rw [e, ← Nat.pow_mul]; exact h)
/-- A number of few digits: its words. -/
theorem few_len {m : Nat} (h : m < 2 ^ 499) : (dig BW m).length ≤ 100000 := Nat.le_trans (small_bits (k := 16) (Nat.lt_of_lt_of_le h (by decide +kernel))) (by decide)
theorem decLen {k : Nat} : ∀ {m : Nat}, m < 10 ^ (k + 1) → (Lib.decDigits m).length ≤ k + 1 := by
  induction k with
  | zero =>
    intro m h
    rw [Lib.decDigits, dif_pos (by simpa using h)]
    exact Nat.le_refl _
  | succ k ih =>
    intro m h
    by_cases h0 : m < 10
    · rw [Lib.decDigits, dif_pos h0]
      show 1 ≤ _
      omega
    · rw [Lib.decDigits, dif_neg h0, List.length_append, List.length_singleton]
      have := ih (m := m / 10) (by rw [Nat.pow_succ] at h; omega)
      omega
theorem parse_dec (n : Nat) (h : n < 2 ^ 499) (hd : (dig 10 n).length ≤ 150) : DFun Tryd.prog 34 [strD (Lib.decDigits n)] (.tup [natD n, .flat (.int .i64 0)]) := by
  have hl : (Lib.decDigits n).length ≤ 150 := by
    refine decLen (k := 149) ?_
    exact Nat.lt_of_lt_of_le (dig_up hB10 n) (Nat.pow_le_pow_right (by decide) hd)
  obtain ⟨hc, hv, _⟩ := dig_ok n
  have hp := parse_ok (Lib.decDigits n) (by omega) hc
  rw [hv, if_neg (by have := blen_le h; omega)] at hp
  exact hp
/-- The number of some digits. -/
theorem of_d (bs : List UInt8) (hl : bs.length ≤ 150) : DFun Tryd.prog 19 [byD bs] (natD (numB bs)) := by
  have hn := numB_lt bs
  have hdl : (dig 10 (numB bs)).length ≤ 150 := Nat.le_trans (dig_len hB10 hn) hl
  have c1 := digits_d bs (by omega)
  have c2 := text_d (numB bs) (by omega)
  have c3 := parse_dec (numB bs) (few_pow hl hn) hdl
  clear hn
  generalize numB bs = n at *
  refine DFun.enterA Tryd.func19 Tryd.ntmps19 ?_
  refine DW.walk ?_
  exact ⟨.inr rfl, ret25 rfl rfl rfl (Vw.pers rfl)⟩
end Go.Proofs.YtebbekdebanabaaDoor
