/- Contracts over data: the reference, Parse. No condition. -/
import Derived.Test.YtgcmajgkcahbnaaDoorXSl
import Derived.Test.YtgcmajgkcahbnaaDoorYA
import Derived.Test.YtgcmajgkcahbnaaDoorYBK
import Derived.Test.YtgcmajgkcahbnaaDoorYAR

set_option linter.unusedSimpArgs false
set_option linter.unusedVariables false
set_option maxHeartbeats 8000000
set_option maxRecDepth 8000
namespace Go.Bs
open Go
theorem drop_digs (s : List UInt8) : s.drop (digs s).length = rest s := by
  conv => lhs; arg 2; rw [← digs_rest s]
  rw [List.drop_left]
theorem take_digs (s : List UInt8) : s.take (digs s).length = digs s := by
  conv => lhs; arg 2; rw [← digs_rest s]
  rw [List.take_left]
/-- A byte among the first digits; the byte behind them. -/
theorem digs_at {s : List UInt8} {j : Nat} (h : j < (digs s).length) : ∃ b, s[j]? = some b ∧ isDg b = true ∧ (digs s).take (j + 1) = (digs s).take j ++ [b] := by
  have e : s[j]? = (digs s)[j]? := by
    conv => lhs; rw [← digs_rest s]
    rw [List.getElem?_append_left h]
  refine ⟨(digs s)[j], ?_, digs_all s _ (List.getElem_mem _), ?_⟩
  · rw [e, List.getElem?_eq_getElem h]
  · rw [List.take_add_one, List.getElem?_eq_getElem h]; rfl
theorem digs_end {s : List UInt8} {b : UInt8} (h : s[(digs s).length]? = some b) : isDg b = false := by
  have e : (rest s).head? = some b := by
    rw [← drop_digs, List.head?_drop]; exact h
  unfold rest at e
  have key : ∀ l : List UInt8, (l.dropWhile isDg).head? = some b → isDg b = false := by
    intro l
    induction l with
    | nil => intro h; cases h
    | cons x xs ih =>
      intro h
      rw [List.dropWhile_cons] at h
      by_cases hx : isDg x = true
      · rw [if_pos hx] at h; exact ih h
      · rw [if_neg hx, List.head?_cons, Option.some.injEq] at h
        rw [← h]; simpa using hx
  exact key s e
theorem dg_iff (b : UInt8) : isDg b = true ↔ 48 ≤ (b.toNat : Int) ∧ (b.toNat : Int) ≤ 57 := by
  unfold isDg
  rw [Bool.and_eq_true, decide_eq_true_eq, decide_eq_true_eq]
  omega
theorem satN_take {d : List UInt8} {j : Nat} {b : UInt8} (h : d.take (j + 1) = d.take j ++ [b]) : satN (d.take (j + 1)) = if satN (d.take j) < 100000 then 10 * satN (d.take j) + (b.toNat - 48) else satN (d.take j) := by
  rw [h, satN_snoc]; rfl
end Go.Bs
namespace Go.Proofs.YtgcmajgkcahbnaaDoor
open Go Go.RowKit Go.PP Go.Dm Go.Bs
noncomputable abbrev code52 : Code := Tryd.f52.body.getD .skip
abbrev rowI (out : List Int) : Option Ent := some (.row 3 1 out.length (out.map fun x => .flat (.int .i64 x)))
def Ex (N k : Nat) (S2 : DS) : Exit → DS → Prop := fun e s => e = .exit k ∧ Sub N s S2
theorem Ex.mk {N k : Nat} {s S2 : DS} (h : Sub N s S2) : Ex N k S2 (.exit k) s := ⟨rfl, h⟩
theorem rp_on1 {cc : Code} (hsel : selC [1, 1, 1, 1, 1, 2, 2, 2, 1, 1, 0, 2, 2] code52 = some cc) (s : List UInt8) (f : Nat) (out : List Int) (hs : s.length ≤ 100000) (a n m : Nat) (b : UInt8) (ha : a < s.length) (hn : n < 1000000) (h1 : s[((a : Nat) : Int).toNat]? = some b) (hb1 : 48 ≤ (b.toNat : Int)) (hb2 : (b.toNat : Int) ≤ 57) (hc : n < 100000) (h4 : m = 10 * n + (b.toNat - 48)) :
    DW Tryd.prog 118 cc ⟨[(0, strD s), (4, .own 17 out.length), (5, .flat (.int .i64 (a : Nat))), (6, .flat (.int .i64 f)), (7, .flat (.int .i64 (n : Nat)))], [(17, rowI out)]⟩ (Nm 118 ⟨[(0, strD s), (4, .own 17 out.length), (5, .flat (.int .i64 ((a + 1 : Nat) : Int))), (6, .flat (.int .i64 f)), (7, .flat (.int .i64 (m : Nat)))], [(17, rowI out)]⟩) := by
  refine DW.sel hsel (by rfl) ?_
  refine DW.walk ?_
  exact Nm.mk Sub.auto
theorem rp_on2 {cc : Code} (hsel : selC [1, 1, 1, 1, 1, 2, 2, 2, 1, 1, 0, 2, 2] code52 = some cc) (s : List UInt8) (f : Nat) (out : List Int) (hs : s.length ≤ 100000) (a n : Nat) (b : UInt8) (ha : a < s.length) (hn : n < 1000000) (h1 : s[((a : Nat) : Int).toNat]? = some b) (hb1 : 48 ≤ (b.toNat : Int)) (hb2 : (b.toNat : Int) ≤ 57) (hc : ¬ n < 100000) :
    DW Tryd.prog 118 cc ⟨[(0, strD s), (4, .own 17 out.length), (5, .flat (.int .i64 (a : Nat))), (6, .flat (.int .i64 f)), (7, .flat (.int .i64 (n : Nat)))], [(17, rowI out)]⟩ (Nm 118 ⟨[(0, strD s), (4, .own 17 out.length), (5, .flat (.int .i64 ((a + 1 : Nat) : Int))), (6, .flat (.int .i64 f)), (7, .flat (.int .i64 (n : Nat)))], [(17, rowI out)]⟩) := by
  refine DW.sel hsel (by rfl) ?_
  refine DW.walk ?_
  exact Nm.mk Sub.auto
theorem rp_off1 {cc : Code} (hsel : selC [1, 1, 1, 1, 1, 2, 2, 2, 1, 1, 0, 2, 2] code52 = some cc) (s : List UInt8) (f : Nat) (out : List Int) (hs : s.length ≤ 100000) (a n : Nat) (b : UInt8) (ha : a < s.length) (h1 : s[((a : Nat) : Int).toNat]? = some b) (hb1 : 48 ≤ (b.toNat : Int)) (hb2 : ¬ (b.toNat : Int) ≤ 57) :
    DW Tryd.prog 118 cc ⟨[(0, strD s), (4, .own 17 out.length), (5, .flat (.int .i64 (a : Nat))), (6, .flat (.int .i64 f)), (7, .flat (.int .i64 (n : Nat)))], [(17, rowI out)]⟩ (Ex 118 2 ⟨[(0, strD s), (4, .own 17 out.length), (5, .flat (.int .i64 (a : Nat))), (6, .flat (.int .i64 f)), (7, .flat (.int .i64 (n : Nat)))], [(17, rowI out)]⟩) := by
  refine DW.sel hsel (by rfl) ?_
  refine DW.walk ?_
  exact Ex.mk Sub.auto
theorem rp_off2 {cc : Code} (hsel : selC [1, 1, 1, 1, 1, 2, 2, 2, 1, 1, 0, 2, 2] code52 = some cc) (s : List UInt8) (f : Nat) (out : List Int) (hs : s.length ≤ 100000) (a n : Nat) (b : UInt8) (ha : a < s.length) (h1 : s[((a : Nat) : Int).toNat]? = some b) (hb1 : ¬ 48 ≤ (b.toNat : Int)) :
    DW Tryd.prog 118 cc ⟨[(0, strD s), (4, .own 17 out.length), (5, .flat (.int .i64 (a : Nat))), (6, .flat (.int .i64 f)), (7, .flat (.int .i64 (n : Nat)))], [(17, rowI out)]⟩ (Ex 118 2 ⟨[(0, strD s), (4, .own 17 out.length), (5, .flat (.int .i64 (a : Nat))), (6, .flat (.int .i64 f)), (7, .flat (.int .i64 (n : Nat)))], [(17, rowI out)]⟩) := by
  refine DW.sel hsel (by rfl) ?_
  refine DW.walk ?_
  exact Ex.mk Sub.auto
theorem rp_off3 {cc : Code} (hsel : selC [1, 1, 1, 1, 1, 2, 2, 2, 1, 1, 0, 2, 2] code52 = some cc) (s : List UInt8) (f : Nat) (out : List Int) (hs : s.length ≤ 100000) (a n : Nat) (ha : ¬ a < s.length) :
    DW Tryd.prog 118 cc ⟨[(0, strD s), (4, .own 17 out.length), (5, .flat (.int .i64 (a : Nat))), (6, .flat (.int .i64 f)), (7, .flat (.int .i64 (n : Nat)))], [(17, rowI out)]⟩ (Ex 118 2 ⟨[(0, strD s), (4, .own 17 out.length), (5, .flat (.int .i64 (a : Nat))), (6, .flat (.int .i64 f)), (7, .flat (.int .i64 (n : Nat)))], [(17, rowI out)]⟩) := by
  refine DW.sel hsel (by rfl) ?_
  refine DW.walk ?_
  exact Ex.mk Sub.auto
end Go.Proofs.YtgcmajgkcahbnaaDoor

set_option linter.unusedSimpArgs false
set_option linter.unusedVariables false
set_option maxHeartbeats 8000000
set_option maxRecDepth 8000
namespace Go.Proofs.YtgcmajgkcahbnaaDoor
open Go Go.RowKit Go.PP Go.Dm Go.Bs
/-- The digits from a place on. -/
theorem rp_digs {cc : Code} (hsel : selC [1, 1, 1, 1, 1, 2, 2, 2, 1, 1, 0] code52 = some cc) (s : List UInt8) (f : Nat) (out : List Int) (hs : s.length ≤ 100000) (hf : f ≤ s.length) :
    DW Tryd.prog 118 cc ⟨[(0, strD s), (4, .own 17 out.length), (5, .flat (.int .i64 (f : Nat))), (6, .flat (.int .i64 f)), (7, .flat (.int .i64 0))], [(17, rowI out)]⟩ (Nm 118 ⟨[(0, strD s), (4, .own 17 out.length), (5, .flat (.int .i64 ((f + (digs (s.drop f)).length : Nat) : Int))), (6, .flat (.int .i64 f)), (7, .flat (.int .i64 (satN (digs (s.drop f)) : Nat)))], [(17, rowI out)]⟩) := by
  have on1 := fun (cc : Code) (h : selC [1, 1, 1, 1, 1, 2, 2, 2, 1, 1, 0, 2, 2] code52 = some cc) => rp_on1 h s f out hs
  have on2 := fun (cc : Code) (h : selC [1, 1, 1, 1, 1, 2, 2, 2, 1, 1, 0, 2, 2] code52 = some cc) => rp_on2 h s f out hs
  have of1 := fun (cc : Code) (h : selC [1, 1, 1, 1, 1, 2, 2, 2, 1, 1, 0, 2, 2] code52 = some cc) => rp_off1 h s f out hs
  have of2 := fun (cc : Code) (h : selC [1, 1, 1, 1, 1, 2, 2, 2, 1, 1, 0, 2, 2] code52 = some cc) => rp_off2 h s f out hs
  have of3 := fun (cc : Code) (h : selC [1, 1, 1, 1, 1, 2, 2, 2, 1, 1, 0, 2, 2] code52 = some cc) => rp_off3 h s f out hs
  refine DW.sel hsel (by rfl) ?_
  refine DW.block ?_
  refine DW.loopA (fun j : Nat => ⟨[(0, strD s), (4, .own 17 out.length), (5, .flat (.int .i64 ((f + j : Nat) : Int))), (6, .flat (.int .i64 f)), (7, .flat (.int .i64 (satN ((digs (s.drop f)).take j) : Nat)))], [(17, rowI out)]⟩) (fun j => j ≤ (digs (s.drop f)).length) (fun j => (digs (s.drop f)).length - j) 0 ?_ (by omega)
  intro j hj
  have hlen := congrArg List.length (digs_rest (s.drop f))
  rw [List.length_append, List.length_drop] at hlen
  have hn := satN_lt (d := (digs (s.drop f)).take j) (fun b hb => digs_all _ b (List.mem_of_mem_take hb))
  rcases Nat.lt_or_ge j (digs (s.drop f)).length with hlt | hge
  · obtain ⟨b, h1, h2, h3⟩ := digs_at hlt
    have h4 := satN_take h3
    rw [List.getElem?_drop] at h1
    have hb := (dg_iff b).1 h2
    by_cases hc : satN ((digs (s.drop f)).take j) < 100000
    · rw [if_pos hc] at h4
      refine (on1 _ (by rfl) (f + j) _ _ b (by omega) hn (by rw [Int.toNat_natCast]; exact h1) hb.1 hb.2 hc h4).mono ?_
      rintro e s' ⟨rfl, hsub⟩
      exact ⟨j + 1, by omega, by omega, hsub⟩
    · rw [if_neg hc] at h4
      refine (on2 _ (by rfl) (f + j) _ b (by omega) hn (by rw [Int.toNat_natCast]; exact h1) hb.1 hb.2 hc).mono ?_
      rintro e s' ⟨rfl, hsub⟩
      exact ⟨j + 1, by omega, by omega, by rw [h4]; exact hsub⟩
  · have hje : j = (digs (s.drop f)).length := by omega
    subst hje
    rw [List.take_length] at hn ⊢
    by_cases hal : f + (digs (s.drop f)).length < s.length
    · obtain ⟨b, h1⟩ : ∃ b, s[f + (digs (s.drop f)).length]? = some b := ⟨_, List.getElem?_eq_getElem hal⟩
      have h2 := digs_end (s := s.drop f) (by rw [List.getElem?_drop]; exact h1)
      have hb : ¬ (48 ≤ (b.toNat : Int) ∧ (b.toNat : Int) ≤ 57) := fun h => by rw [(dg_iff b).2 h] at h2; cases h2
      by_cases hb1 : 48 ≤ (b.toNat : Int)
      · refine (of1 _ (by rfl) (f + (digs (s.drop f)).length) _ b hal (by rw [Int.toNat_natCast]; exact h1) hb1 (fun h => hb ⟨hb1, h⟩)).mono ?_
        rintro e s' ⟨rfl, hsub⟩
        exact ⟨rfl, hsub⟩
      · refine (of2 _ (by rfl) (f + (digs (s.drop f)).length) _ b hal (by rw [Int.toNat_natCast]; exact h1) hb1).mono ?_
        rintro e s' ⟨rfl, hsub⟩
        exact ⟨rfl, hsub⟩
    · refine (of3 _ (by rfl) (f + (digs (s.drop f)).length) _ hal).mono ?_
      rintro e s' ⟨rfl, hsub⟩
      exact ⟨rfl, hsub⟩
end Go.Proofs.YtgcmajgkcahbnaaDoor
