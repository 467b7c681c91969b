/- Contracts over data: what a text begins with. No condition. -/
import Derived.Test.YtohjapcafkhabaaDoorYBK
import Derived.Test.YtohjapcafkhabaaDoorYNR
import Derived.Test.YtohjapcafkhabaaDoorYC8
import Derived.Test.YtohjapcafkhabaaDoorXSl

set_option linter.unusedSimpArgs false
set_option linter.unusedVariables false
set_option maxHeartbeats 4000000
set_option maxRecDepth 8000
namespace Go.Proofs.YtohjapcafkhabaaDoor
open Go Go.RowKit Go.PP Go.Dm Go.Rt
theorem hp_d (a b : List UInt8) (p : Bool) (ha : a.length ≤ 1000000) (hb : b.length ≤ 1000000) (hp : decide (List.take b.length a = b) = p) : DFun Tryd.prog 75 [strD a, strD b] (.flat (.bool p)) := by
  refine DFun.enterA Tryd.func75 Tryd.ntmps75 ?_
  by_cases hl : b.length ≤ a.length
  · refine DW.walk ?_
    exact ⟨.inr rfl, ResOk.one [] rfl rfl trivial (Vw.le (Vw.pers rfl) (Le.of_eq (by rw [hp]; rfl)))⟩
  · have : p = false := by
      rw [← hp]
      refine decide_eq_false fun e => hl ?_
      have := congrArg List.length e
      rw [List.length_take] at this
      omega
    subst this
    refine DW.walk ?_
    exact ⟨.inr rfl, ResOk.one [] rfl rfl trivial (Vw.pers rfl)⟩
theorem cutF_d (a b : List UInt8) (ha : a.length ≤ 1000000) (hb : b.length ≤ 1000000) (h : DFun Tryd.prog 75 [strD a, strD b] (.flat (.bool false))) : DFun Tryd.prog 76 [strD a, strD b] (.tup [strD a, .flat (.bool false)]) := by
  refine DFun.enterA Tryd.func76 Tryd.ntmps76 ?_
  refine DW.walk ?_
  exact ⟨.inr rfl, ResOk.two [] rfl rfl rfl trivial (Vw.pers rfl) (Vw.pers rfl)⟩
theorem cutT_d (a b c : List UInt8) (ha : a.length ≤ 1000000) (hb : b.length ≤ a.length) (hc : List.drop b.length a = c) (h : DFun Tryd.prog 75 [strD a, strD b] (.flat (.bool true))) : DFun Tryd.prog 76 [strD a, strD b] (.tup [strD c, .flat (.bool true)]) := by
  refine DFun.enterA Tryd.func76 Tryd.ntmps76 ?_
  refine DW.walk ?_
  exact ⟨.inr rfl, ResOk.two [] rfl rfl rfl trivial (Vw.le (Vw.pers rfl) (Le.of_eq (by rw [hc]; rfl))) (Vw.pers rfl)⟩
theorem cutP_d (a b c : List UInt8) (p : Bool) (h : DFun Tryd.prog 76 [strD a, strD b] (.tup [strD c, .flat (.bool p)])) : DFun Tryd.prog 64 [strD a, strD b] (.tup [strD c, .flat (.bool p)]) := by
  refine DFun.enterA Tryd.func64 Tryd.ntmps64 ?_
  refine DW.walk ?_
  exact ⟨.inr rfl, ResOk.two [] rfl rfl rfl trivial (Vw.pers rfl) (Vw.pers rfl)⟩
def cutA (c : UInt8) (s : List UInt8) : List UInt8 := if s.head? = some c then s.tail else s
theorem cut_d (c : UInt8) (s : List UInt8) (hs : s.length ≤ 1000000) : DFun Tryd.prog 64 [strD s, strD [c]] (.tup [strD (cutA c s), .flat (.bool (decide (s.head? = some c)))]) := by
  refine cutP_d _ _ _ _ ?_
  unfold cutA
  cases s with
  | nil =>
    have e : decide (([] : List UInt8).head? = some c) = false := decide_eq_false (fun h => by cases h)
    rw [e, if_neg (fun h => by cases h)]
    exact cutF_d _ _ (by decide) (by simp) (hp_d [] [c] false (by decide) (by simp) (decide_eq_false fun h => by cases h))
  | cons x t =>
    rw [List.head?_cons]
    by_cases h : x = c
    · subst h
      rw [decide_eq_true rfl, if_pos rfl]
      exact cutT_d _ _ _ hs (by simp) rfl (hp_d _ _ true hs (by simp) (decide_eq_true rfl))
    · rw [decide_eq_false (fun e => h (Option.some.inj e)), if_neg (fun e => h (Option.some.inj e))]
      exact cutF_d _ _ hs (by simp) (hp_d _ _ false hs (by simp) (decide_eq_false fun e => h (List.cons.inj e).1))
theorem hp63_d (a b : List UInt8) (p : Bool) (h : DFun Tryd.prog 75 [strD a, strD b] (.flat (.bool p))) : DFun Tryd.prog 63 [strD a, strD b] (.flat (.bool p)) := by
  refine DFun.enterA Tryd.func63 Tryd.ntmps63 ?_
  refine DW.walk ?_
  exact ⟨.inr rfl, ResOk.one [] rfl rfl trivial (Vw.pers rfl)⟩
theorem hasp_d (c : UInt8) (s : List UInt8) (hs : s.length ≤ 1000000) : DFun Tryd.prog 63 [strD s, strD [c]] (.flat (.bool (decide (s.head? = some c)))) := by
  refine hp63_d _ _ _ ?_
  cases s with
  | nil => exact hp_d _ _ _ (by decide) (by simp) (by rw [decide_eq_false (fun h => by cases h)]; exact (decide_eq_false fun h => by cases h).symm)
  | cons x t =>
    refine hp_d _ _ _ hs (by simp) ?_
    show decide ([x] = [c]) = decide (some x = some c)
    by_cases h : x = c
    · rw [h]; rw [decide_eq_true rfl, decide_eq_true rfl]
    · rw [decide_eq_false (fun e => h (List.cons.inj e).1), decide_eq_false (fun e => h (Option.some.inj e))]
end Go.Proofs.YtohjapcafkhabaaDoor

set_option linter.unusedSimpArgs false
set_option linter.unusedVariables false
set_option maxHeartbeats 4000000
set_option maxRecDepth 8000
namespace Go.Proofs.YtohjapcafkhabaaDoor
open Go Go.RowKit Go.PP Go.Dm Go.Rt
theorem it4096 : DFun Tryd.prog 66 [.flat (.int .i64 4096)] (strD [52, 48, 57, 54]) := by
  have h := itoa_d 4096 (by decide) (by decide)
  have e : Lib.itoa 4096 = [52, 48, 57, 54] := by decide +kernel
  rwa [e] at h
theorem numB0 (s R d : List UInt8) (hs : s.length ≤ 1000000) (hR : R.length ≤ s.length) (hd : List.take (s.length - R.length) s = d) (h1 : DFun Tryd.prog 73 [strD s, strD [48, 49, 50, 51, 52, 53, 54, 55, 56, 57]] (strD R)) (hd0 : d = []) : DFun Tryd.prog 62 [strD s] (.tup [.flat (.int .i64 0), strD [], .flat (.bool false)]) := by
  have h66 := it4096
  refine DFun.enterA Tryd.func62 Tryd.ntmps62 ?_
  refine DW.walkTo 3 ?_
  rw [hd]
  subst hd0
  have e0 : decide (([] : List UInt8) = []) = true := rfl
  refine DW.walk ?_
  exact ⟨.inr rfl, ResOk.three [] rfl rfl rfl rfl trivial (Vw.pers rfl) (Vw.pers rfl) (Vw.pers rfl)⟩
theorem numB1 (s R d : List UInt8) (x : UInt8) (hs : s.length ≤ 1000000) (hR : R.length ≤ s.length) (hd : List.take (s.length - R.length) s = d) (h1 : DFun Tryd.prog 73 [strD s, strD [48, 49, 50, 51, 52, 53, 54, 55, 56, 57]] (strD R)) (e0 : decide (d = []) = false) (hx : d[0]? = some x) (hl : 1 < d.length) (hl2 : d.length ≤ 1000000) (h48 : (x.toNat : Int) = 48) : DFun Tryd.prog 62 [strD s] (.tup [.flat (.int .i64 0), strD [], .flat (.bool false)]) := by
  have h66 := it4096
  refine DFun.enterA Tryd.func62 Tryd.ntmps62 ?_
  refine DW.walkTo 3 ?_
  rw [hd]
  refine DW.walk ?_
  exact ⟨.inr rfl, ResOk.three [] rfl rfl rfl rfl trivial (Vw.pers rfl) (Vw.pers rfl) (Vw.pers rfl)⟩
theorem numL (s R d : List UInt8) (x : UInt8) (hs : s.length ≤ 1000000) (hR : R.length ≤ s.length) (hd : List.take (s.length - R.length) s = d) (h1 : DFun Tryd.prog 73 [strD s, strD [48, 49, 50, 51, 52, 53, 54, 55, 56, 57]] (strD R)) (e0 : decide (d = []) = false) (hx : d[0]? = some x) (hl : 4 < d.length) (hl2 : d.length ≤ 1000000) (h48 : ¬ (x.toNat : Int) = 48) : DFun Tryd.prog 62 [strD s] (.tup [.flat (.int .i64 0), strD [], .flat (.bool false)]) := by
  have h66 := it4096
  refine DFun.enterA Tryd.func62 Tryd.ntmps62 ?_
  refine DW.walkTo 3 ?_
  rw [hd]
  refine DW.walk ?_
  exact ⟨.inr rfl, ResOk.three [] rfl rfl rfl rfl trivial (Vw.pers rfl) (Vw.pers rfl) (Vw.pers rfl)⟩
end Go.Proofs.YtohjapcafkhabaaDoor

set_option linter.unusedSimpArgs false
set_option linter.unusedVariables false
set_option maxHeartbeats 4000000
set_option maxRecDepth 8000
namespace Go.Proofs.YtohjapcafkhabaaDoor
open Go Go.RowKit Go.PP Go.Dm Go.Rt
theorem numV1 (s R d : List UInt8) (x : UInt8) (n : Nat) (hs : s.length ≤ 1000000) (hR : R.length ≤ s.length) (hd : List.take (s.length - R.length) s = d) (h1 : DFun Tryd.prog 73 [strD s, strD [48, 49, 50, 51, 52, 53, 54, 55, 56, 57]] (strD R)) (e0 : decide (d = []) = false) (hx : d[0]? = some x) (hl : d.length ≤ 4) (hl1 : d.length ≤ 1) (hn : n ≤ 10000) (h2 : DFun Tryd.prog 74 [strD d] (.tup [.flat (.int .i64 n), .flat .nilIface])) : DFun Tryd.prog 62 [strD s] (.tup [.flat (.int .i64 (n : Nat)), strD R, .flat (.bool (decide ((n : Int) < 4096)))]) := by
  have h66 := it4096
  refine DFun.enterA Tryd.func62 Tryd.ntmps62 ?_
  refine DW.walkTo 3 ?_
  rw [hd]
  refine DW.walk ?_
  exact ⟨.inr rfl, ResOk.three [] rfl rfl rfl rfl trivial (Vw.pers rfl) (Vw.pers rfl) (Vw.pers rfl)⟩
theorem numV2 (s R d : List UInt8) (x : UInt8) (n : Nat) (hs : s.length ≤ 1000000) (hR : R.length ≤ s.length) (hd : List.take (s.length - R.length) s = d) (h1 : DFun Tryd.prog 73 [strD s, strD [48, 49, 50, 51, 52, 53, 54, 55, 56, 57]] (strD R)) (e0 : decide (d = []) = false) (hx : d[0]? = some x) (hl : d.length ≤ 4) (hl1 : ¬ d.length ≤ 1) (hn : n ≤ 10000) (h48 : ¬ (x.toNat : Int) = 48) (h2 : DFun Tryd.prog 74 [strD d] (.tup [.flat (.int .i64 n), .flat .nilIface])) : DFun Tryd.prog 62 [strD s] (.tup [.flat (.int .i64 (n : Nat)), strD R, .flat (.bool (decide ((n : Int) < 4096)))]) := by
  have h66 := it4096
  refine DFun.enterA Tryd.func62 Tryd.ntmps62 ?_
  refine DW.walkTo 3 ?_
  rw [hd]
  refine DW.walk ?_
  exact ⟨.inr rfl, ResOk.three [] rfl rfl rfl rfl trivial (Vw.pers rfl) (Vw.pers rfl) (Vw.pers rfl)⟩
end Go.Proofs.YtohjapcafkhabaaDoor

set_option linter.unusedSimpArgs false
set_option linter.unusedVariables false
set_option maxHeartbeats 4000000
set_option maxRecDepth 8000
namespace Go.Proofs.YtohjapcafkhabaaDoor
open Go Go.RowKit Go.PP Go.Dm Go.Rt
theorem number_ok {s : List UInt8} (hs : s.length ≤ 1000000) (h : ¬ badN (digs s)) (h4 : (digs s).length ≤ 4) : DFun Tryd.prog 62 [strD s] (.tup [.flat (.int .i64 (valN (digs s) : Nat)), strD (rest s), .flat (.bool (decide ((valN (digs s) : Int) < 4096)))]) := by
  have hlen := congrArg List.length (digs_rest s)
  rw [List.length_append] at hlen
  have hd : List.take (s.length - (rest s).length) s = digs s := by
    conv => lhs; rw [← digs_rest s]
    rw [List.take_append_of_le_length (by rw [digs_rest]; omega), List.take_of_length_le (by rw [digs_rest]; omega)]
  have h1 := trim_d s
  have hR : (rest s).length ≤ s.length := by omega
  have hall := digs_all s
  have hv := valN_lt _ hall
  have hp : 10 ^ (digs s).length ≤ 10 ^ 4 := Nat.pow_le_pow_right (by decide) h4
  have hvn : valN (digs s) ≤ 10000 := by omega
  cases hc : digs s with
  | nil => exact absurd (.inl hc) h
  | cons x t =>
    have e0 : decide (digs s = []) = false := decide_eq_false (by rw [hc]; simp)
    have hx : (digs s)[0]? = some x := by rw [hc]; rfl
    rw [← hc]
    have h2 := atoi_d (digs s) _ (by omega) (atoi_canon (by rw [hc]; simp) hall)
    by_cases hl1 : (digs s).length ≤ 1
    · exact numV1 s _ _ x _ hs hR hd h1 e0 hx (by omega) hl1 hvn h2
    · refine numV2 s _ _ x _ hs hR hd h1 e0 hx (by omega) hl1 hvn (fun e => h (.inr ⟨by omega, ?_⟩)) h2
      rw [hc, List.head?_cons]
      congr 1
      exact u8_ext (a := x) (b := 48) (by have : (48 : UInt8).toNat = 48 := rfl; omega)
theorem number_bad {s : List UInt8} (hs : s.length ≤ 1000000) (h : badN (digs s) ∨ 4 < (digs s).length) : DFun Tryd.prog 62 [strD s] (.tup [.flat (.int .i64 0), strD [], .flat (.bool false)]) := by
  have hlen := congrArg List.length (digs_rest s)
  rw [List.length_append] at hlen
  have hd : List.take (s.length - (rest s).length) s = digs s := by
    conv => lhs; rw [← digs_rest s]
    rw [List.take_append_of_le_length (by rw [digs_rest]; omega), List.take_of_length_le (by rw [digs_rest]; omega)]
  have h1 := trim_d s
  have hR : (rest s).length ≤ s.length := by omega
  cases hc : digs s with
  | nil => exact numB0 s _ _ hs hR hd h1 hc
  | cons x t =>
    have e0 : decide (digs s = []) = false := decide_eq_false (by rw [hc]; simp)
    have hx : (digs s)[0]? = some x := by rw [hc]; rfl
    by_cases hb : 1 < (digs s).length ∧ (digs s).head? = some 48
    · have h48 : (x.toNat : Int) = 48 := by
        have h := hb.2
        rw [hc, List.head?_cons, Option.some.injEq] at h
        rw [h]; rfl
      exact numB1 s _ _ x hs hR hd h1 e0 hx hb.1 (by omega) h48
    · have h4 : 4 < (digs s).length := h.resolve_left (by
        rintro (h | h)
        · rw [hc] at h; cases h
        · exact hb h)
      have h48 : ¬ (x.toNat : Int) = 48 := by
        intro e
        refine hb ⟨by omega, ?_⟩
        rw [hc, List.head?_cons]
        congr 1
        exact u8_ext (a := x) (b := 48) (by have : (48 : UInt8).toNat = 48 := rfl; omega)
      exact numL s _ _ x hs hR hd h1 e0 hx h4 (by omega) h48
end Go.Proofs.YtohjapcafkhabaaDoor
