/- Contracts over data: strconv.ParseUint of digits at 31 bits; bytes.Cut at one byte; bytes.HasPrefix. No condition. -/
import Derived.Test.YtjmljmappfhiaaaDoorYY
import Derived.Test.YtjmljmappfhiaaaDoorYTk

set_option linter.unusedSimpArgs false
set_option linter.unusedVariables false
set_option maxHeartbeats 8000000
set_option maxRecDepth 8000
namespace Go.Proofs.YtjmljmappfhiaaaDoor
open Go Go.RowKit Go.PP Go.Dm

theorem val_next {l : Bs} {m : Nat} {c : UInt8} (h : l[m]? = some c) (hd : digC c = true) : (valD (l.take m) : Int) * 10 + ((c.toNat : Int) - 48) = (valD (l.take (m + 1)) : Nat) := by
  rw [List.take_add_one, h]
  simp only [Option.toList_some, valD_snoc]
  unfold digC at hd
  simp at hd
  omega
theorem parseIn_d (s : Bs) (hs : ∀ c ∈ s, digC c = true) (hl : s.length ≤ 1000000) : DFun Tryd.prog 57 [strD s, .flat (.int .i64 10), .flat (.int .i64 31)]
    (if s = [] then .tup [.flat (.int .u64 0), .flat (.iface 98 (.int .i64 2))] else if valD s ≤ 2147483647 then .tup [.flat (.int .u64 (valD s)), .flat .nilIface] else .tup [.flat (.int .u64 2147483647), .flat (.iface 98 (.int .i64 1))]) := by
  have hsh : IntKind.u64.wrap (1 * 2 ^ (min (31 : Int).toNat IntKind.u64.bits)) = 2147483648 := by decide
  refine DFun.enterA Tryd.func57 Tryd.ntmps57 ?_
  by_cases h0 : s = []
  · subst h0
    rw [if_pos rfl]
    refine DW.walk ?_
    exact ⟨.inr rfl, ResOk.two [] rfl rfl rfl trivial (Vw.pers rfl) (Vw.pers rfl)⟩
  · rw [if_neg h0]
    have hd0 : decide (s = []) = false := decide_eq_false h0
    refine DW.walk ?_
    refine DW.loopA (fun j : Nat => ⟨[(0, strD s), (1, .flat (.int .i64 10)), (8, .flat (.bool false)), (9, strD s), (10, .flat (.int .u64 1844674407370955162)), (11, .flat (.int .u64 2147483647)), (12, .flat (.bool false)), (13, .flat (.int .u64 (valD (s.take j)))), (99, .own 99 s.length), (100, .flat (.int .i64 s.length)), (101, .flat (.int .i64 j))], [(99, some (.row 5 1 s.length (bD s)))]⟩) (fun j => j ≤ s.length ∧ valD (s.take j) ≤ 2147483647) (fun j => s.length - j) 0 ?_ ⟨by omega, by simp [valD]⟩
    intro j ⟨hj, hv⟩
    rcases Nat.lt_or_ge j s.length with hlt | hge
    · obtain ⟨c, hc⟩ : ∃ c, s[j]? = some c := ⟨s[j], by simp⟩
      have hdc := hs c (List.mem_of_getElem? hc)
      have hn := val_next hc hdc
      have hp := bD_at hc
      have htk := valD_take_le s (j + 1)
      have hpb := bD_pers s
      generalize hg : valD (s.take j) = a at hv hn
      generalize hg2 : valD (s.take (j + 1)) = a2 at hn htk
      have hq := hdc
      unfold digC at hq
      simp at hq
      by_cases hmx : a2 ≤ 2147483647
      · refine DW.walk ?_
        refine ⟨j + 1, ⟨by omega, by omega⟩, by omega, ?_⟩
        rw [hg2]
        exact Sub.auto
      · have hvs : ¬ valD s ≤ 2147483647 := by omega
        rw [if_neg hvs]
        refine DW.walk ?_
        exact ⟨.inr rfl, ResOk.two [] rfl rfl rfl trivial (Vw.pers rfl) (Vw.pers rfl)⟩
    · have hje : j = s.length := by omega
      subst hje
      rw [List.take_length] at hv ⊢
      rw [if_pos hv]
      refine DW.walk ?_
      exact ⟨.inr rfl, ResOk.two [] rfl rfl rfl trivial (Vw.pers rfl) (Vw.pers rfl)⟩
/-- What ParseUint says of digits: the number, or an error. -/
theorem parse_d (s : Bs) (hs : ∀ c ∈ s, digC c = true) (hl : s.length ≤ 1000000) : (s ≠ [] ∧ valD s ≤ 2147483647 ∧ DFun Tryd.prog 53 [strD s, .flat (.int .i64 10), .flat (.int .i64 31)] (.tup [.flat (.int .u64 (valD s)), .flat .nilIface])) ∨ ((s = [] ∨ 2147483647 < valD s) ∧ ∃ v : Nat, DFun Tryd.prog 53 [strD s, .flat (.int .i64 10), .flat (.int .i64 31)] (.tup [.flat (.int .u64 v), .ifn])) := by
  have hc := parseIn_d s hs hl
  by_cases h0 : s = []
  · rw [if_pos h0] at hc
    have hte := toErr_syntax [80, 97, 114, 115, 101, 85, 105, 110, 116] s (by omega) 10 31
    refine .inr ⟨.inl h0, 0, ?_⟩
    refine DFun.enterA Tryd.func53 Tryd.ntmps53 ?_
    refine DW.walk ?_
    exact ⟨.inr rfl, ResOk.two [] rfl rfl rfl trivial (Vw.pers rfl) (Vw.pers rfl)⟩
  · rw [if_neg h0] at hc
    by_cases hv : valD s ≤ 2147483647
    · rw [if_pos hv] at hc
      refine .inl ⟨h0, hv, ?_⟩
      refine DFun.enterA Tryd.func53 Tryd.ntmps53 ?_
      refine DW.walk ?_
      exact ⟨.inr rfl, ResOk.two [] rfl rfl rfl trivial (Vw.pers rfl) (Vw.pers rfl)⟩
    · rw [if_neg hv] at hc
      have hte := toErr_range [80, 97, 114, 115, 101, 85, 105, 110, 116] s (by omega) 10 31
      refine .inr ⟨.inr (by omega), 2147483647, ?_⟩
      refine DFun.enterA Tryd.func53 Tryd.ntmps53 ?_
      refine DW.walk ?_
      exact ⟨.inr rfl, ResOk.two [] rfl rfl rfl trivial (Vw.pers rfl) (Vw.pers rfl)⟩
theorem run_cons_t {p : UInt8 → Bool} {c : UInt8} {l : Bs} (h : p c = true) : run p (c :: l) = run p l + 1 := by unfold run; rw [List.takeWhile_cons, if_pos h]; simp
theorem run_cons_f {p : UInt8 → Bool} {c : UInt8} {l : Bs} (h : p c = false) : run p (c :: l) = 0 := by unfold run; rw [List.takeWhile_cons, if_neg (by simp [h])]; rfl
/-- Where a byte is first met. -/
theorem ib_run (l : Bs) : Lib.indexByte l 32 = if run noSp l < l.length then (run noSp l : Int) else -1 := by
  induction l with
  | nil => rfl
  | cons c l ih =>
    by_cases hc : c = 32
    · subst hc
      rw [run_cons_f (by decide), if_pos (by simp)]
      rfl
    · have h1 : noSp c = true := by unfold noSp; simp [hc]
      have h2 : (c == (32 : UInt8)) = false := by simpa using hc
      rw [run_cons_t h1]
      unfold Lib.indexByte
      rw [h2, ih]
      simp only [Bool.false_eq_true, if_false, List.length_cons]
      generalize run noSp l = r
      by_cases hl : r < l.length
      · have hr : ((r : Int) == -1) = false := by simp
        rw [if_pos (show r + 1 < l.length + 1 by omega), if_pos hl, hr]
        simp
      · rw [if_neg (show ¬ r + 1 < l.length + 1 by omega), if_neg hl]
        rfl
theorem equalB_d (a b : Bs) (ha : a.length ≤ 1000000) (hb : b.length ≤ 1000000) : DFun Tryd.prog 59 [bytesD a, bytesD b] (.flat (.bool (decide (a = b)))) := by
  refine DFun.enterA Tryd.func59 Tryd.ntmps59 ?_
  refine DW.walk ?_
  exact ⟨.inr rfl, ResOk.one [] rfl rfl trivial (Vw.pers rfl)⟩
theorem index_b (l : Bs) (hl : l.length ≤ 1000000) : DFun Tryd.prog 56 [bytesD l, .sl true 1 1 [.flat (.int .u8 32)]] (.flat (.int .i64 (Lib.indexByte l 32))) := by
  have h61 := indexByte_d l 32
  refine DFun.enterA Tryd.func56 Tryd.ntmps56 ?_
  refine DW.walk ?_
  exact ⟨.inr rfl, ResOk.one [] rfl rfl trivial (Vw.pers rfl)⟩
/-- bytes.Cut at a space. -/
theorem cutSp_d (l : Bs) (hl : l.length ≤ 1000000) : ∃ rest : D, Dm.pers rest = true ∧ DFun Tryd.prog 52 [bytesD l, .sl true 1 1 [.flat (.int .u8 32)]] (.tup [bytesD (l.take (run noSp l)), rest, .flat (.bool (decide (run noSp l < l.length)))]) := by
  have h56 := index_b l hl
  rw [ib_run] at h56
  have hle := run_le noSp l
  by_cases h : run noSp l < l.length
  · rw [if_pos h] at h56
    rw [decide_eq_true h]
    have hcv : D.sl false 1 (run noSp l) ((bD l).take (run noSp l * 1)) = bytesD (l.take (run noSp l)) := by
      unfold bytesD
      rw [List.length_take, Nat.min_eq_left hle, Nat.mul_one]
      congr 1
      exact List.map_take.symm
    refine ⟨.sl false 1 (l.length - (run noSp l + 1)) ((bD l).drop ((run noSp l + 1) * 1)), rfl, ?_⟩
    refine DFun.enterA Tryd.func52 Tryd.ntmps52 ?_
    refine DW.walk ?_
    refine ⟨.inr rfl, ResOk.three [] rfl rfl rfl rfl trivial (Vw.p rfl (Le.of_eq hcv)) (Vw.pers rfl) (Vw.pers rfl)⟩
  · rw [if_neg h] at h56
    rw [decide_eq_false h]
    have hr : run noSp l = l.length := by omega
    rw [hr, List.take_length]
    refine ⟨.flat (.slice none 0 0), rfl, ?_⟩
    refine DFun.enterA Tryd.func52 Tryd.ntmps52 ?_
    refine DW.walk ?_
    exact ⟨.inr rfl, ResOk.three [] rfl rfl rfl rfl trivial (Vw.pers rfl) (Vw.pers rfl) (Vw.pers rfl)⟩
theorem hasPrefix_d (a b : Bs) (ha : a.length ≤ 1000000) (hb : b.length ≤ 1000000) : DFun Tryd.prog 54 [bytesD a, bytesD b] (.flat (.bool (b.isPrefixOf a))) := by
  by_cases hl : b.length ≤ a.length
  · have h59 := equalB_d (a.take b.length) b (by simp; omega) hb
    have hcv : D.sl false 1 b.length ((bD a).take (b.length * 1)) = bytesD (a.take b.length) := by
      unfold bytesD
      rw [List.length_take, Nat.min_eq_left hl, Nat.mul_one]
      congr 1
      exact List.map_take.symm
    rw [← hcv] at h59
    have hp : decide (a.take b.length = b) = b.isPrefixOf a := by
      rw [Bool.eq_iff_iff]
      rw [decide_eq_true_iff, List.isPrefixOf_iff_prefix, List.prefix_iff_eq_take]
      exact eq_comm
    rw [hp] at h59
    generalize b.isPrefixOf a = p at h59
    refine DFun.enterA Tryd.func54 Tryd.ntmps54 ?_
    refine DW.walk ?_
    exact ⟨.inr rfl, ResOk.one [] rfl rfl trivial (Vw.pers rfl)⟩
  · have hp : b.isPrefixOf a = false := by
      cases h : b.isPrefixOf a with
      | false => rfl
      | true =>
        have := (List.isPrefixOf_iff_prefix.1 h).length_le
        omega
    rw [hp]
    refine DFun.enterA Tryd.func54 Tryd.ntmps54 ?_
    refine DW.walk ?_
    exact ⟨.inr rfl, ResOk.one [] rfl rfl trivial (Vw.pers rfl)⟩
end Go.Proofs.YtjmljmappfhiaaaDoor
