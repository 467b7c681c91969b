/- Contracts over data: checksums, names, numbers. No condition. -/
import Derived.Test.YtjmljmappfhiaaaDoorYA

set_option linter.unusedSimpArgs false
set_option linter.unusedVariables false
set_option maxHeartbeats 1000000
set_option maxRecDepth 8000
namespace Go.Proofs.YtjmljmappfhiaaaDoor
open Go Go.RowKit Go.PP Go.Dm

abbrev Bs := List UInt8
abbrev bytesD (l : Bs) : D := .sl false 1 l.length (bD l)
abbrev strD (l : Bs) : D := .flat (.string ⟨l.toArray⟩)
def sumStep (s : BitVec 32) (c : UInt8) : BitVec 32 := (s ^^^ BitVec.ofInt 32 (c.toNat : Int)) * BitVec.ofInt 32 16777619
def sumB (l : Bs) : BitVec 32 := l.foldl sumStep (BitVec.ofNat 32 2166136261)
theorem sum_take {l : Bs} {j : Nat} {c : UInt8} (h : l[j]? = some c) : ((((sumB (l.take j)) ^^^ BitVec.ofInt 32 (c.toNat : Int)) * BitVec.ofInt 32 16777619).toNat : Int) = (sumB (l.take (j + 1))).toNat := by
  have : sumB (l.take (j + 1)) = sumStep (sumB (l.take j)) c := by
    unfold sumB
    rw [List.take_add_one, h]
    simp
  rw [this]; rfl
theorem bD_at {l : Bs} {j : Nat} {c : UInt8} (h : l[j]? = some c) : partD false 1 (j * 1) (bD l) = some (.flat (.int .u8 c.toNat)) := part_map (f := fun c : UInt8 => D.flat (.int .u8 c.toNat)) h

theorem checksum_d (l : Bs) (hl : l.length ≤ 281474976710656) : DFun Tryd.prog 23 [bytesD l] (.flat (.int .u32 (sumB l).toNat)) := by
  refine DFun.enterA Tryd.func23 Tryd.ntmps23 ?_
  refine DW.walk ?_
  refine DW.loopA (fun j : Nat => ⟨[(3, .flat (.int .u32 (sumB (l.take j)).toNat)), (6, bytesD l), (7, .flat (.int .i64 l.length)), (8, .flat (.int .i64 j))], []⟩) (fun j => j ≤ l.length) (fun j => l.length - j) 0 ?_ (by omega)
  intro j hj
  rcases Nat.lt_or_ge j l.length with hlt | hge
  · obtain ⟨c, hc⟩ : ∃ c, l[j]? = some c := ⟨l[j], by simp⟩
    have hp := bD_at hc
    have hs := sum_take hc
    refine DW.walk ?_
    exact ⟨j + 1, by omega, by omega, Sub.auto⟩
  · have hje : j = l.length := by omega
    subst hje
    rw [List.take_length]
    refine DW.walk ?_
    exact ⟨.inr rfl, ResOk.one [] rfl rfl trivial (Vw.pers rfl)⟩
theorem sum_d (l : Bs) (hl : l.length ≤ 281474976710656) : DFun Tryd.prog 24 [bytesD l] (.flat (.int .u32 (sumB l).toNat)) := by
  refine DFun.enterA Tryd.func24 Tryd.ntmps24 ?_
  refine DW.walk ?_
  refine DW.loopA (fun j : Nat => ⟨[(0, bytesD l), (3, .flat (.int .u32 (sumB (l.take j)).toNat)), (4, .flat (.int .i64 j))], []⟩) (fun j => j ≤ l.length) (fun j => l.length - j) 0 ?_ (by omega)
  intro j hj
  rcases Nat.lt_or_ge j l.length with hlt | hge
  · obtain ⟨c, hc⟩ : ∃ c, l[j]? = some c := ⟨l[j], by simp⟩
    have hp := bD_at hc
    have hs := sum_take hc
    refine DW.walk ?_
    exact ⟨j + 1, by omega, by omega, Sub.auto⟩
  · have hje : j = l.length := by omega
    subst hje
    rw [List.take_length]
    refine DW.walk ?_
    exact ⟨.inr rfl, ResOk.one [] rfl rfl trivial (Vw.pers rfl)⟩

/-! names -/
def charOk (c : UInt8) : Bool := !(decide ((c.toNat : Int) ≤ 32) || decide ((126 : Int) < c.toNat))
def nameOk (l : Bs) : Bool := l.all charOk && (decide (l ≠ []) && decide ((l.length : Int) ≤ 32))
theorem all_take {l : Bs} {j : Nat} {c : UInt8} (h : l[j]? = some c) (ha : (l.take j).all charOk = true) (hc : charOk c = true) : (l.take (j + 1)).all charOk = true := by
  rw [List.take_add_one, h]
  simp only [List.all_append, ha, Option.toList_some, List.all_cons, hc, List.all_nil, Bool.and_self]
theorem all_bad {l : Bs} {j : Nat} {c : UInt8} (h : l[j]? = some c) (hc : charOk c = false) : l.all charOk = false := by
  cases he : l.all charOk with
  | false => rfl
  | true => rw [List.all_eq_true.1 he c (List.mem_of_getElem? h)] at hc; cases hc
theorem named_d (l : Bs) (hl : l.length ≤ 281474976710656) : DFun Tryd.prog 49 [strD l] (.flat (.bool (nameOk l))) := by
  refine DFun.enterA Tryd.func49 Tryd.ntmps49 ?_
  refine DW.walk ?_
  refine DW.loopA (fun j : Nat => ⟨[(0, strD l), (5, .flat (.int .i64 l.length)), (6, .flat (.int .i64 j))], []⟩) (fun j => j ≤ l.length ∧ (l.take j).all charOk = true) (fun j => l.length - j) 0 ?_ ⟨by omega, rfl⟩
  intro j ⟨hj, ha⟩
  rcases Nat.lt_or_ge j l.length with hlt | hge
  · obtain ⟨c, hc⟩ : ∃ c, l[j]? = some c := ⟨l[j], by simp⟩
    rcases Nat.lt_or_ge 32 c.toNat with h1 | h1
    · rcases Nat.lt_or_ge 126 c.toNat with h2 | h2
      · have hb : nameOk l = false := by unfold nameOk; rw [all_bad hc (by simp [charOk]; omega)]; rfl
        rw [hb]
        refine DW.walk ?_
        exact ⟨.inr rfl, ResOk.one [] rfl rfl trivial (Vw.pers rfl)⟩
      · have ha' := all_take hc ha (by simp [charOk]; omega)
        refine DW.walk ?_
        exact ⟨j + 1, ⟨by omega, ha'⟩, by omega, Sub.auto⟩
    · have hb : nameOk l = false := by unfold nameOk; rw [all_bad hc (by simp [charOk]; omega)]; rfl
      rw [hb]
      refine DW.walk ?_
      exact ⟨.inr rfl, ResOk.one [] rfl rfl trivial (Vw.pers rfl)⟩
  · have hje : j = l.length := by omega
    subst hje
    rw [List.take_length] at ha
    unfold nameOk
    rw [ha, Bool.true_and]
    by_cases h0 : l = []
    · subst h0
      refine DW.walk ?_
      exact ⟨.inr rfl, ResOk.one [] rfl rfl trivial (Vw.pers rfl)⟩
    · rw [decide_eq_true h0, Bool.true_and]
      refine DW.walk ?_
      exact ⟨.inr rfl, ResOk.one [] rfl rfl trivial (Vw.pers rfl)⟩
end Go.Proofs.YtjmljmappfhiaaaDoor

set_option linter.unusedSimpArgs false
set_option linter.unusedVariables false
set_option maxHeartbeats 1000000
set_option maxRecDepth 8000
namespace Go.Proofs.YtjmljmappfhiaaaDoor
open Go Go.RowKit Go.PP Go.Dm

theorem isName_d (l : Bs) (hl : l.length ≤ 281474976710656) : DFun Tryd.prog 38 [strD l] (.flat (.bool (nameOk l))) := by
  refine DFun.enterA Tryd.func38 Tryd.ntmps38 ?_
  refine DW.walk ?_
  refine DW.loopA (fun j : Nat => ⟨[(0, strD l), (3, .flat (.int .i64 j))], []⟩) (fun j => j ≤ l.length ∧ (l.take j).all charOk = true) (fun j => l.length - j) 0 ?_ ⟨by omega, rfl⟩
  intro j ⟨hj, ha⟩
  rcases Nat.lt_or_ge j l.length with hlt | hge
  · obtain ⟨c, hc⟩ : ∃ c, l[j]? = some c := ⟨l[j], by simp⟩
    rcases Nat.lt_or_ge 32 c.toNat with h1 | h1
    · rcases Nat.lt_or_ge 126 c.toNat with h2 | h2
      · have hb : nameOk l = false := by unfold nameOk; rw [all_bad hc (by simp [charOk]; omega)]; rfl
        rw [hb]
        refine DW.walk ?_
        exact ⟨.inr rfl, ResOk.one [] rfl rfl trivial (Vw.pers rfl)⟩
      · have ha' := all_take hc ha (by simp [charOk]; omega)
        refine DW.walk ?_
        exact ⟨j + 1, ⟨by omega, ha'⟩, by omega, Sub.auto⟩
    · have hb : nameOk l = false := by unfold nameOk; rw [all_bad hc (by simp [charOk]; omega)]; rfl
      rw [hb]
      refine DW.walk ?_
      exact ⟨.inr rfl, ResOk.one [] rfl rfl trivial (Vw.pers rfl)⟩
  · have hje : j = l.length := by omega
    subst hje
    rw [List.take_length] at ha
    unfold nameOk
    rw [ha, Bool.true_and]
    by_cases h0 : l = []
    · subst h0
      refine DW.walk ?_
      exact ⟨.inr rfl, ResOk.one [] rfl rfl trivial (Vw.pers rfl)⟩
    · rw [decide_eq_true h0, Bool.true_and]
      have hpos : 0 < l.length := List.length_pos_iff.2 h0
      refine DW.walk ?_
      exact ⟨.inr rfl, ResOk.one [] rfl rfl trivial (Vw.pers rfl)⟩
abbrev entD (e : Bs × Bs) : D := .agg [strD e.1, strD e.2]
def errE (e : Bs × Bs) : Int := if nameOk e.1 = false then 6 else if 65536 < e.2.length then 2 else 0
theorem check_d (e : Bs × Bs) (h1 : e.1.length ≤ 281474976710656) (h2 : e.2.length ≤ 281474976710656) : DFun Tryd.prog 36 [entD e] (.flat (.int .i64 (errE e))) := by
  obtain ⟨a, b⟩ := e
  have hn := named_d a h1
  unfold errE
  refine DFun.enterA Tryd.func36 Tryd.ntmps36 ?_
  cases h : nameOk a with
  | false =>
    rw [h] at hn
    rw [if_pos rfl]
    refine DW.walk ?_
    exact ⟨.inr rfl, ResOk.one [] rfl rfl trivial (Vw.pers rfl)⟩
  | true =>
    rw [h] at hn
    rw [if_neg (by decide)]
    by_cases hb : 65536 < b.length
    · rw [if_pos hb]
      refine DW.walk ?_
      exact ⟨.inr rfl, ResOk.one [] rfl rfl trivial (Vw.pers rfl)⟩
    · rw [if_neg hb]
      refine DW.walk ?_
      exact ⟨.inr rfl, ResOk.one [] rfl rfl trivial (Vw.pers rfl)⟩
theorem checkN_d (e : Bs × Bs) (h1 : e.1.length ≤ 281474976710656) (h2 : e.2.length ≤ 281474976710656) : DFun Tryd.prog 14 [entD e] (.flat (.int .i64 (errE e))) := by
  obtain ⟨a, b⟩ := e
  have hn := isName_d a h1
  unfold errE
  refine DFun.enterA Tryd.func14 Tryd.ntmps14 ?_
  cases h : nameOk a with
  | false =>
    rw [h] at hn
    rw [if_pos rfl]
    refine DW.walk ?_
    exact ⟨.inr rfl, ResOk.one [] rfl rfl trivial (Vw.pers rfl)⟩
  | true =>
    rw [h] at hn
    rw [if_neg (by decide)]
    by_cases hb : 65536 < b.length
    · rw [if_pos hb]
      refine DW.walk ?_
      exact ⟨.inr rfl, ResOk.one [] rfl rfl trivial (Vw.pers rfl)⟩
    · rw [if_neg hb]
      refine DW.walk ?_
      exact ⟨.inr rfl, ResOk.one [] rfl rfl trivial (Vw.pers rfl)⟩
/-- The digits' signs. -/
def signs : Bs := [48, 49, 50, 51, 52, 53, 54, 55, 56, 57, 97, 98, 99, 100, 101, 102]
def digsR (b : Nat) : Nat → Nat → Bs
  | 0, n => []
  | f + 1, n => (if n < b then [] else digsR b f (n / b)) ++ [signs.getD (n % b) 0]
theorem digsR_fuel (b : Nat) (hb : 2 ≤ b) : ∀ (f g n : Nat), n < f → n < g → digsR b f n = digsR b g n
  | 0, g, n, h, _ => by omega
  | f + 1, 0, n, _, h => by omega
  | f + 1, g + 1, n, h, h2 => by
    simp only [digsR]
    by_cases hn : n < b
    · rw [if_pos hn, if_pos hn]
    · rw [if_neg hn, if_neg hn]
      have : n / b < n := Nat.div_lt_self (by omega) (by omega)
      rw [digsR_fuel b hb f g (n / b) (by omega) (by omega)]
def digs (b n : Nat) : Bs := digsR b (n + 1) n
theorem digs_eq (b : Nat) (hb : 2 ≤ b) (n : Nat) : digs b n = (if n < b then [] else digs b (n / b)) ++ [signs.getD (n % b) 0] := by
  unfold digs
  conv => lhs; rw [digsR]
  by_cases hn : n < b
  · rw [if_pos hn, if_pos hn]
  · rw [if_neg hn, if_neg hn]
    have : n / b < n := Nat.div_lt_self (by omega) (by omega)
    rw [digsR_fuel b hb n (n / b + 1) (n / b) (by omega) (by omega)]
theorem digs_len (b : Nat) (hb : 2 ≤ b) : ∀ (m n : Nat), n < b ^ m → (digs b n).length ≤ m + 1
  | 0, n, h => by
    rw [digs_eq b hb, if_pos (by simp at h; omega)]; simp
  | m + 1, n, h => by
    rw [digs_eq b hb]
    by_cases hn : n < b
    · rw [if_pos hn]; simp
    · rw [if_neg hn]
      have := digs_len b hb m (n / b) (Nat.div_lt_of_lt_mul (by rw [Nat.pow_succ, Nat.mul_comm] at h; exact h))
      simp; omega
end Go.Proofs.YtjmljmappfhiaaaDoor
