/- Contracts over data: the errors of entries; digits. No condition. -/
import Derived.Test.YtjmljmappfhiaaaDoorVB
set_option linter.unusedSimpArgs false
set_option linter.unusedVariables false
set_option maxHeartbeats 1000000
set_option maxRecDepth 8000
namespace Go.Proofs.YtjmljmappfhiaaaDoor
open Go Go.RowKit Go.PP Go.Dm

theorem isName_d (l : Bs) (hl : l.length ≤ 281474976710656) : DFun Tryd.prog 38 [strD l] (.flat (.bool (nameOk l))) := by
  refine DFun.enterA Tryd.func38 Tryd.ntmps38 ?_
  refine DW.walk ?_
  refine DW.loopA (fun j : Nat => ⟨[(0, strD l), (3, .flat (.int .i64 j))], []⟩) (fun j => j ≤ l.length ∧ (l.take j).all charOk = true) (fun j => l.length - j) 0 ?_ ⟨by omega, rfl⟩
  intro j ⟨hj, ha⟩
  rcases Nat.lt_or_ge j l.length with hlt | hge
  · obtain ⟨c, hc⟩ : ∃ c, l[j]? = some c := ⟨l[j], by simp⟩
    rcases Nat.lt_or_ge 32 c.toNat with h1 | h1
    · rcases Nat.lt_or_ge 126 c.toNat with h2 | h2
      · have hb : nameOk l = false := by unfold nameOk; rw [all_bad hc (by simp [charOk]; omega)]; rfl
        rw [hb]
        refine DW.walk ?_
        exact ⟨.inr rfl, ResOk.one [] rfl rfl trivial (Vw.pers rfl)⟩
      · have ha' := all_take hc ha (by simp [charOk]; omega)
        refine DW.walk ?_
        exact ⟨j + 1, ⟨by omega, ha'⟩, by omega, Sub.auto⟩
    · have hb : nameOk l = false := by unfold nameOk; rw [all_bad hc (by simp [charOk]; omega)]; rfl
      rw [hb]
      refine DW.walk ?_
      exact ⟨.inr rfl, ResOk.one [] rfl rfl trivial (Vw.pers rfl)⟩
  · have hje : j = l.length := by omega
    subst hje
    rw [List.take_length] at ha
    unfold nameOk
    rw [ha, Bool.true_and]
    by_cases h0 : l = []
    · subst h0
      refine DW.walk ?_
      exact ⟨.inr rfl, ResOk.one [] rfl rfl trivial (Vw.pers rfl)⟩
    · rw [decide_eq_true h0, Bool.true_and]
      have hpos : 0 < l.length := List.length_pos_iff.2 h0
      refine DW.walk ?_
      exact ⟨.inr rfl, ResOk.one [] rfl rfl trivial (Vw.pers rfl)⟩
abbrev entD (e : Bs × Bs) : D := .agg [strD e.1, strD e.2]
def errE (e : Bs × Bs) : Int := if nameOk e.1 = false then 6 else if 65536 < e.2.length then 2 else 0
theorem check_d (e : Bs × Bs) (h1 : e.1.length ≤ 281474976710656) (h2 : e.2.length ≤ 281474976710656) : DFun Tryd.prog 36 [entD e] (.flat (.int .i64 (errE e))) := by
  obtain ⟨a, b⟩ := e
  have hn := named_d a h1
  unfold errE
  refine DFun.enterA Tryd.func36 Tryd.ntmps36 ?_
  cases h : nameOk a with
  | false =>
    rw [h] at hn
    rw [if_pos rfl]
    refine DW.walk ?_
    exact ⟨.inr rfl, ResOk.one [] rfl rfl trivial (Vw.pers rfl)⟩
  | true =>
    rw [h] at hn
    rw [if_neg (by decide)]
    by_cases hb : 65536 < b.length
    · rw [if_pos hb]
      refine DW.walk ?_
      exact ⟨.inr rfl, ResOk.one [] rfl rfl trivial (Vw.pers rfl)⟩
    · rw [if_neg hb]
      refine DW.walk ?_
      exact ⟨.inr rfl, ResOk.one [] rfl rfl trivial (Vw.pers rfl)⟩
theorem checkN_d (e : Bs × Bs) (h1 : e.1.length ≤ 281474976710656) (h2 : e.2.length ≤ 281474976710656) : DFun Tryd.prog 14 [entD e] (.flat (.int .i64 (errE e))) := by
  obtain ⟨a, b⟩ := e
  have hn := isName_d a h1
  unfold errE
  refine DFun.enterA Tryd.func14 Tryd.ntmps14 ?_
  cases h : nameOk a with
  | false =>
    rw [h] at hn
    rw [if_pos rfl]
    refine DW.walk ?_
    exact ⟨.inr rfl, ResOk.one [] rfl rfl trivial (Vw.pers rfl)⟩
  | true =>
    rw [h] at hn
    rw [if_neg (by decide)]
    by_cases hb : 65536 < b.length
    · rw [if_pos hb]
      refine DW.walk ?_
      exact ⟨.inr rfl, ResOk.one [] rfl rfl trivial (Vw.pers rfl)⟩
    · rw [if_neg hb]
      refine DW.walk ?_
      exact ⟨.inr rfl, ResOk.one [] rfl rfl trivial (Vw.pers rfl)⟩
/-- The digits' signs. -/
def signs : Bs := [48, 49, 50, 51, 52, 53, 54, 55, 56, 57, 97, 98, 99, 100, 101, 102]
def digsR (b : Nat) : Nat → Nat → Bs
  | 0, n => []
  | f + 1, n => (if n < b then [] else digsR b f (n / b)) ++ [signs.getD (n % b) 0]
theorem digsR_fuel (b : Nat) (hb : 2 ≤ b) : ∀ (f g n : Nat), n < f → n < g → digsR b f n = digsR b g n
  | 0, g, n, h, _ => by omega
  | f + 1, 0, n, _, h => by omega
  | f + 1, g + 1, n, h, h2 => by
    simp only [digsR]
    by_cases hn : n < b
    · rw [if_pos hn, if_pos hn]
    · rw [if_neg hn, if_neg hn]
      have : n / b < n := Nat.div_lt_self (by omega) (by omega)
      rw [digsR_fuel b hb f g (n / b) (by omega) (by omega)]
def digs (b n : Nat) : Bs := digsR b (n + 1) n
theorem digs_eq (b : Nat) (hb : 2 ≤ b) (n : Nat) : digs b n = (if n < b then [] else digs b (n / b)) ++ [signs.getD (n % b) 0] := by
  unfold digs
  conv => lhs; rw [digsR]
  by_cases hn : n < b
  · rw [if_pos hn, if_pos hn]
  · rw [if_neg hn, if_neg hn]
    have : n / b < n := Nat.div_lt_self (by omega) (by omega)
    rw [digsR_fuel b hb n (n / b + 1) (n / b) (by omega) (by omega)]
theorem digs_len (b : Nat) (hb : 2 ≤ b) : ∀ (m n : Nat), n < b ^ m → (digs b n).length ≤ m + 1
  | 0, n, h => by
    rw [digs_eq b hb, if_pos (by simp at h; omega)]; simp
  | m + 1, n, h => by
    rw [digs_eq b hb]
    by_cases hn : n < b
    · rw [if_pos hn]; simp
    · rw [if_neg hn]
      have := digs_len b hb m (n / b) (Nat.div_lt_of_lt_mul (by rw [Nat.pow_succ, Nat.mul_comm] at h; exact h))
      simp; omega
end Go.Proofs.YtjmljmappfhiaaaDoor
