/- Parts of a function's code. No condition. -/
import Derived.Test.YtjmljmappfhiaaaDoorXW
import Derived.Test.YtjmljmappfhiaaaDoorYY

set_option linter.unusedSimpArgs false
set_option linter.unusedVariables false
set_option linter.unusedSectionVars false
namespace Go.Dm
open Go Go.RowKit Go.PP
variable [GlobW]
/-- A part of a code, by its path. -/
def selC : List Nat → Code → Option Code
  | [], c => some c
  | 0 :: p, .seq a _ => selC p a
  | 1 :: p, .seq _ b => selC p b
  | 0 :: p, .cond _ a _ => selC p a
  | 1 :: p, .cond _ _ b => selC p b
  | 2 :: p, .block _ c => selC p c
  | 2 :: p, .loop c => selC p c
  | _, _ => none
theorem DW.sel {P : Program} {N : Nat} {p : List Nat} {b c c0 : Code} {s : DS} {Q : Exit → DS → Prop} (h : selC p b = some c) (h0 : selC p b = some c0) (k : DW P N c0 s Q) : DW P N c s Q := by
  rw [h] at h0
  cases h0
  exact k
/-- The end of a function: its results. -/
abbrev QF (P : Program) (fn : Func) (d : D) : Exit → DS → Prop := fun e s => (e = .normal ∨ e = .ret) ∧ ResOk P fn s d
end Go.Dm

set_option linter.unusedSimpArgs false
set_option linter.unusedVariables false
set_option maxHeartbeats 8000000
set_option maxRecDepth 8000
namespace Go.Proofs.YtjmljmappfhiaaaDoor
open Go Go.RowKit Go.PP Go.Dm

/-- The reader's number grows by a digit. -/
theorem val_step {l : Bs} {m : Nat} {c : UInt8} (h : l[m]? = some c) (hd : digC c = true) : 10 * (valD (l.take m) : Int) + c.toNat - 48 = (valD (l.take (m + 1)) : Nat) := by
  rw [List.take_add_one, h]
  simp only [Option.toList_some, valD_snoc]
  unfold digC at hd
  simp at hd
  omega
/-- Where the reference stops to read digits: behind the last, or where the number is too great. -/
theorem stop_at (l : Bs) (n : Nat) : ∃ m, m ≤ n ∧ (m = n ∨ 100000 ≤ valD (l.take m)) ∧ ∀ k, k < m → valD (l.take k) < 100000 := by
  induction n with
  | zero => exact ⟨0, Nat.le_refl _, .inl rfl, fun k hk => by omega⟩
  | succ n ih =>
    obtain ⟨m, h1, h2, h3⟩ := ih
    by_cases hv : 100000 ≤ valD (l.take m)
    · exact ⟨m, by omega, .inr hv, h3⟩
    · have hmn : m = n := by rcases h2 with h2 | h2 <;> omega
      subst hmn
      exact ⟨m + 1, by omega, .inl rfl, fun k hk => by
        rcases Nat.lt_or_ge k m with h | h
        · exact h3 k h
        · have : k = m := by omega
          subst this; omega⟩
theorem digs_short {n : Nat} (h : n < 100000) : (digs 10 n).length ≤ 5 := digs_len1 10 (by omega) 4 n h
noncomputable abbrev code48 : Code := Tryd.f48.body.getD .skip
/-- The state behind the digits. -/
noncomputable abbrev st48 (b : Bs) (sp k v : Nat) : DS := ⟨[(0, bytesD b), (2, .ref 2 0), (3, .flat (.int .i64 0)), (4, .flat (.int .i64 sp)), (5, .flat (.int .i64 k)), (6, .flat (.int .i64 v))], [(2, some (.box [strD [], strD []]))]⟩
noncomputable abbrev st48b (b : Bs) (sp k v en : Nat) : DS := ⟨[(0, bytesD b), (2, .ref 2 0), (3, .flat (.int .i64 0)), (4, .flat (.int .i64 sp)), (5, .flat (.int .i64 k)), (6, .flat (.int .i64 v)), (7, .flat (.int .i64 en))], [(2, some (.box [strD [], strD []]))]⟩
end Go.Proofs.YtjmljmappfhiaaaDoor

set_option linter.unusedSimpArgs false
set_option linter.unusedVariables false
set_option maxHeartbeats 8000000
set_option maxRecDepth 8000
namespace Go.Proofs.YtjmljmappfhiaaaDoor
open Go Go.RowKit Go.PP Go.Dm

theorem first_t1 {c : Code} (hsel : selC [1, 1, 1, 1, 1, 1] code48 = some c) (b : Bs) (hb : b.length ≤ 1000000) (sp k v en : Nat) (hsp : sp ≤ b.length) (hk : k ≤ 1000001) (hv : v < 1000000000000) (hE : k + 10 + v + 1 = en)
    (hc : (k : Int) = (sp : Int) + 1 ∨ (¬ (k : Int) = (sp : Int) + 1 ∧ (65536 : Int) < (v : Int)) ∨ (¬ (k : Int) = (sp : Int) + 1 ∧ ¬ (65536 : Int) < (v : Int) ∧ (b.length : Int) < (en : Int))) :
    DW Tryd.prog 114 c (st48 b sp k v) (QF Tryd.prog Tryd.f48 (.tup [entD ([], []), .flat (.int .i64 0)])) := by
  refine DW.sel hsel (by rfl) ?_
  refine DW.walkTo 10 ?_
  refine DW.sub (s' := st48b b sp k v (k + 10 + v + 1)) Sub.auto ?_
  rw [hE]
  rcases hc with c1 | ⟨c1, c2⟩ | ⟨c1, c2, c3⟩
  · refine DW.walk ?_
    exact ⟨.inr rfl, ResOk.cellTmpA [] rfl rfl rfl ag31 sz31 rfl trivial (VwL.pers rfl) (Le.refl _) (Vw.pers rfl)⟩
  · refine DW.walk ?_
    exact ⟨.inr rfl, ResOk.cellTmpA [] rfl rfl rfl ag31 sz31 rfl trivial (VwL.pers rfl) (Le.refl _) (Vw.pers rfl)⟩
  · refine DW.walk ?_
    exact ⟨.inr rfl, ResOk.cellTmpA [] rfl rfl rfl ag31 sz31 rfl trivial (VwL.pers rfl) (Le.refl _) (Vw.pers rfl)⟩
end Go.Proofs.YtjmljmappfhiaaaDoor

set_option linter.unusedSimpArgs false
set_option linter.unusedVariables false
set_option maxHeartbeats 8000000
set_option maxRecDepth 8000
namespace Go.Proofs.YtjmljmappfhiaaaDoor
open Go Go.RowKit Go.PP Go.Dm

theorem first_t2 {c : Code} (hsel : selC [1, 1, 1, 1, 1, 1] code48 = some c) (b : Bs) (hb : b.length ≤ 1000000) (sp k v en : Nat) (hsp : sp ≤ b.length) (hk : k ≤ 1000001) (hv : v < 1000000000000) (hE : k + 10 + v + 1 = en)
    (c1 : ¬ (k : Int) = (sp : Int) + 1) (c2 : ¬ (65536 : Int) < (v : Int)) (c3 : ¬ (b.length : Int) < (en : Int)) (y1 y2 : Bs) (hcv1 : (bD b).take (sp * 1) = bD y1) (hcv2 : ((bD b).drop ((k + 10) * 1)).take ((k + 10 + v - (k + 10)) * 1) = bD y2) (hl1 : y1.length ≤ b.length) (hl2 : y2.length ≤ b.length) (he : errE (y1, y2) ≠ 0) :
    DW Tryd.prog 114 c (st48 b sp k v) (QF Tryd.prog Tryd.f48 (.tup [entD ([], []), .flat (.int .i64 0)])) := by
  refine DW.sel hsel (by rfl) ?_
  refine DW.walkTo 10 ?_
  refine DW.sub (s' := st48b b sp k v (k + 10 + v + 1)) Sub.auto ?_
  rw [hE]
  have hc := checkN_d (y1, y2) (by simp only; omega) (by simp only; omega)
  have hei : decide (errE (y1, y2) ≠ 0) = true := decide_eq_true he
  generalize errE (y1, y2) = er at hc he hei
  refine DW.walk ?_
  exact ⟨.inr rfl, ResOk.cellTmpA [] rfl rfl rfl ag31 sz31 rfl trivial (VwL.pers rfl) (Le.refl _) (Vw.pers rfl)⟩
end Go.Proofs.YtjmljmappfhiaaaDoor

set_option linter.unusedSimpArgs false
set_option linter.unusedVariables false
set_option maxHeartbeats 8000000
set_option maxRecDepth 8000
namespace Go.Proofs.YtjmljmappfhiaaaDoor
open Go Go.RowKit Go.PP Go.Dm

theorem first_t3 {c : Code} (hsel : selC [1, 1, 1, 1, 1, 1] code48 = some c) (b : Bs) (hb : b.length ≤ 1000000) (sp k v en : Nat) (hsp : sp ≤ b.length) (hk : k ≤ 1000001) (hv : v < 1000000000000) (hE : k + 10 + v + 1 = en)
    (c1 : ¬ (k : Int) = (sp : Int) + 1) (c2 : ¬ (65536 : Int) < (v : Int)) (c3 : ¬ (b.length : Int) < (en : Int)) (y1 y2 : Bs) (hcv1 : (bD b).take (sp * 1) = bD y1) (hcv2 : ((bD b).drop ((k + 10) * 1)).take ((k + 10 + v - (k + 10)) * 1) = bD y2) (hl1 : y1.length ≤ b.length) (hl2 : y2.length ≤ b.length) (he : errE (y1, y2) = 0) (w : Bs) (hcv3 : (bD b).take (en * 1) = bD w) (r : Bool) (hr : r = (decide (((encW (y1, y2)).length : Int) ≠ (en : Int)) || decide (encW (y1, y2) ≠ w))) :
    DW Tryd.prog 114 c (st48 b sp k v) (QF Tryd.prog Tryd.f48 (.tup [entD (if r then ([], []) else (y1, y2)), .flat (.int .i64 (if r then (0 : Int) else en))])) := by
  refine DW.sel hsel (by rfl) ?_
  refine DW.walkTo 10 ?_
  refine DW.sub (s' := st48b b sp k v (k + 10 + v + 1)) Sub.auto ?_
  rw [hE]
  have hc := checkN_d (y1, y2) (by simp only; omega) (by simp only; omega)
  rw [he] at hc
  obtain ⟨e1, e2, _⟩ := err_ok he
  have hby := bytesN_d (y1, y2) e1 e2
  rw [← encW_eq] at hby
  generalize encW (y1, y2) = z at hby hr
  by_cases hl : (z.length : Int) = (en : Int)
  · have hzl : decide ((z.length : Int) ≠ (en : Int)) = false := decide_eq_false (by omega)
    rw [hzl, Bool.false_or] at hr
    by_cases hzw : z = w
    · have hzz : decide (z ≠ w) = false := decide_eq_false (fun h => h hzw)
      rw [hzz] at hr
      subst hr
      refine DW.walk ?_
      exact ⟨.inr rfl, ResOk.cellTmpA [] rfl rfl rfl ag31 sz31 rfl trivial (VwL.pers rfl) (Le.refl _) (Vw.pers rfl)⟩
    · have hzz : decide (z ≠ w) = true := decide_eq_true hzw
      rw [hzz] at hr
      subst hr
      refine DW.walk ?_
      exact ⟨.inr rfl, ResOk.cellTmpA [] rfl rfl rfl ag31 sz31 rfl trivial (VwL.pers rfl) (Le.refl _) (Vw.pers rfl)⟩
  · have hzl : decide ((z.length : Int) ≠ (en : Int)) = true := decide_eq_true (by omega)
    rw [hzl, Bool.true_or] at hr
    subst hr
    refine DW.walk ?_
    exact ⟨.inr rfl, ResOk.cellTmpA [] rfl rfl rfl ag31 sz31 rfl trivial (VwL.pers rfl) (Le.refl _) (Vw.pers rfl)⟩
end Go.Proofs.YtjmljmappfhiaaaDoor

set_option linter.unusedSimpArgs false
set_option linter.unusedVariables false
set_option maxHeartbeats 8000000
set_option maxRecDepth 8000
namespace Go.Proofs.YtjmljmappfhiaaaDoor
open Go Go.RowKit Go.PP Go.Dm

theorem first_l1 {c : Code} (hsel : selC [1, 1, 0, 2] code48 = some c) (b : Bs) (hb : b.length ≤ 1000000) :
    DW Tryd.prog 114 c ⟨[(4, .flat (.int .i64 0)), (3, .flat (.int .i64 0)), (2, .ref 2 0), (0, bytesD b)], [(2, some (.box [strD [], strD []]))]⟩ (Blk 0 (fun e s => e = .normal ∧ Sub 114 s ⟨[(0, bytesD b), (2, .ref 2 0), (3, .flat (.int .i64 0)), (4, .flat (.int .i64 (spB b)))], [(2, some (.box [strD [], strD []]))]⟩)) := by
  have hsl : spB b ≤ b.length := run_le noSp b
  refine DW.sel hsel (by rfl) ?_
  refine DW.loopA (fun j : Nat => ⟨[(0, bytesD b), (2, .ref 2 0), (3, .flat (.int .i64 0)), (4, .flat (.int .i64 j))], [(2, some (.box [strD [], strD []]))]⟩) (fun j => j ≤ spB b) (fun j => spB b - j) 0 ?_ (by omega)
  intro j hj
  rcases Nat.lt_or_ge j (spB b) with hlt | hge
  · obtain ⟨c, hc, hq⟩ := run_at (p := noSp) hlt
    have hp := bD_at hc
    have hne : ¬ (c.toNat : Int) = 32 := by
      unfold noSp at hq
      simp at hq
      intro h
      exact hq (UInt8.toNat_inj.1 (by simpa using (by omega : c.toNat = 32)))
    refine DW.walk ?_
    exact ⟨j + 1, by omega, by omega, Sub.auto⟩
  · have hje : j = spB b := by omega
    subst hje
    rcases Nat.lt_or_ge (spB b) b.length with hl | hl
    · obtain ⟨c, hc, hq⟩ := run_end (p := noSp) hl
      have hp := bD_at hc
      have he : (c.toNat : Int) = 32 := by
        unfold noSp at hq
        simp at hq
        rw [hq]; rfl
      refine DW.walk ?_
      exact ⟨rfl, Sub.auto⟩
    · refine DW.walk ?_
      exact ⟨rfl, Sub.auto⟩
end Go.Proofs.YtjmljmappfhiaaaDoor

set_option linter.unusedSimpArgs false
set_option linter.unusedVariables false
set_option maxHeartbeats 8000000
set_option maxRecDepth 8000
namespace Go.Proofs.YtjmljmappfhiaaaDoor
open Go Go.RowKit Go.PP Go.Dm

theorem first_l2 {c : Code} (hsel : selC [1, 1, 1, 1, 1, 0, 2] code48 = some c) (b : Bs) (hb : b.length ≤ 1000000) (m0 : Nat) (hm1 : m0 ≤ ddB b) (hm2 : m0 = ddB b ∨ 100000 ≤ valD ((restB b).take m0)) (hm3 : ∀ k, k < m0 → valD ((restB b).take k) < 100000) (v : Nat) (hnv : valD ((restB b).take m0) = v) :
    DW Tryd.prog 114 c ⟨[(6, .flat (.int .i64 0)), (5, .flat (.int .i64 (spB b + 1))), (0, bytesD b), (2, .ref 2 0), (3, .flat (.int .i64 0)), (4, .flat (.int .i64 (spB b)))], [(2, some (.box [strD [], strD []]))]⟩ (Blk 2 (fun e s => e = .normal ∧ Sub 114 s (st48 b (spB b) (spB b + 1 + m0) v))) := by
  have hsl : spB b ≤ b.length := run_le noSp b
  have hrl : (restB b).length = b.length - (spB b + 1) := by simp
  have hdl : ddB b ≤ (restB b).length := run_le digC (restB b)
  refine DW.sel hsel (by rfl) ?_
  refine DW.loopA (fun j : Nat => ⟨[(0, bytesD b), (2, .ref 2 0), (3, .flat (.int .i64 0)), (4, .flat (.int .i64 (spB b))), (5, .flat (.int .i64 (spB b + 1 + j))), (6, .flat (.int .i64 (valD ((restB b).take j))))], [(2, some (.box [strD [], strD []]))]⟩) (fun j => j ≤ m0) (fun j => m0 - j) 0 ?_ (by omega)
  intro j hj
  rcases Nat.lt_or_ge j m0 with hlt | hge
  · obtain ⟨c, hc, hq⟩ := run_at (p := digC) (b := restB b) (i := j) (show j < ddB b by omega)
    have hst := val_step hc hq
    have hsm := hm3 j hlt
    have hc' := hc
    unfold restB at hc'
    rw [List.getElem?_drop] at hc'
    have hp := bD_at hc'
    have hlt2 := (List.getElem?_eq_some_iff.1 hc').1
    generalize hg : valD ((restB b).take j) = a at hst hsm
    generalize hg2 : valD ((restB b).take (j + 1)) = a2 at hst
    have hq2 := hq
    unfold digC at hq2
    simp at hq2
    refine DW.walk ?_
    refine ⟨j + 1, by omega, by omega, ?_⟩
    rw [hg2]
    exact Sub.auto
  · have hje : j = m0 := by omega
    subst hje
    rw [hnv]
    rcases Nat.lt_or_ge (spB b + 1 + j) b.length with hl | hl
    · obtain ⟨c, hc⟩ : ∃ c, b[spB b + 1 + j]? = some c := ⟨b[spB b + 1 + j], by simp⟩
      have hp := bD_at hc
      by_cases h48 : (48 : Int) ≤ c.toNat
      · by_cases h57 : (c.toNat : Int) ≤ 57
        · have hbig : ¬ (v : Int) < 100000 := by
            rcases hm2 with h | h
            · exfalso
              obtain ⟨d, hd, hdf⟩ := run_end (p := digC) (b := restB b) (show ddB b < (restB b).length by rw [hrl]; omega)
              have hd' : (restB b)[j]? = some d := by rw [h]; exact hd
              unfold restB at hd'
              rw [List.getElem?_drop, hc] at hd'
              cases hd'
              unfold digC at hdf
              simp at hdf
              omega
            · omega
          refine DW.walk ?_
          exact ⟨rfl, Sub.auto⟩
        · refine DW.walk ?_
          exact ⟨rfl, Sub.auto⟩
      · refine DW.walk ?_
        exact ⟨rfl, Sub.auto⟩
    · refine DW.walk ?_
      exact ⟨rfl, Sub.auto⟩
end Go.Proofs.YtjmljmappfhiaaaDoor

set_option linter.unusedSimpArgs false
set_option linter.unusedVariables false
set_option maxHeartbeats 8000000
set_option maxRecDepth 8000
namespace Go.Proofs.YtjmljmappfhiaaaDoor
open Go Go.RowKit Go.PP Go.Dm

theorem first_d (b : Bs) (hb : b.length ≤ 1000000) : ∃ x : Bs × Bs, ∃ n : Nat, ((Reads b x ∧ n = (encW x).length) ∨ ((∀ e, ¬ Reads b e) ∧ x = ([], []) ∧ n = 0)) ∧ DFun Tryd.prog 48 [bytesD b] (.tup [entD x, .flat (.int .i64 n)]) := by
  have hsl : spB b ≤ b.length := run_le noSp b
  obtain ⟨m0, hm1, hm2, hm3⟩ := stop_at (restB b) (ddB b)
  have hrl : (restB b).length = b.length - (spB b + 1) := by simp
  have hdl : ddB b ≤ (restB b).length := run_le digC (restB b)
  have hv0 : valD ((restB b).take m0) < 1000000000000 := by
    cases m0 with
    | zero => simp [valD]
    | succ m =>
      have := hm3 m (by omega)
      obtain ⟨c, hc, hd⟩ := run_at (p := digC) (b := restB b) (i := m) (show m < ddB b by omega)
      have h2 := val_step hc hd
      have := c.toNat_lt
      omega
  have fnd : ∀ e, Reads b e → Found b e ∧ m0 = ddB b := fun e he => by
    have f := he.found
    refine ⟨f, ?_⟩
    rcases hm2 with h | h
    · exact h
    · exfalso
      have h1 := valD_take_le ((restB b).take (ddB b)) m0
      rw [List.take_take, Nat.min_eq_left hm1, f.val] at h1
      have := f.small
      omega
  generalize hnv : valD ((restB b).take m0) = v at hv0
  have key : ∀ (x : Bs × Bs) (n : Nat), ((Reads b x ∧ n = (encW x).length) ∨ ((∀ e, ¬ Reads b e) ∧ x = ([], []) ∧ n = 0)) → DFun Tryd.prog 48 [bytesD b] (.tup [entD x, .flat (.int .i64 n)]) := by
    intro x n hxn
    refine DFun.enterA Tryd.func48 Tryd.ntmps48 ?_
    refine DW.walk ?_
    refine DW.cutB ⟨[(0, bytesD b), (2, .ref 2 0), (3, .flat (.int .i64 0)), (4, .flat (.int .i64 (spB b)))], [(2, some (.box [strD [], strD []]))]⟩ (DW.sub Sub.auto (first_l1 rfl b hb)) ?_
    refine DW.walk ?_
    refine DW.cutB (st48 b (spB b) (spB b + 1 + m0) v) (DW.sub Sub.auto (first_l2 rfl b hb m0 hm1 hm2 hm3 v hnv)) ?_
    generalize hk : spB b + 1 + m0 = k
    generalize hE : k + 10 + v + 1 = en
    have hcv1 : (bD b).take (spB b * 1) = bD (b.take (spB b)) := by rw [Nat.mul_one]; exact List.map_take.symm
    have hcv2 : ((bD b).drop ((k + 10) * 1)).take ((k + 10 + v - (k + 10)) * 1) = bD ((b.drop (k + 10)).take v) := by
      rw [Nat.mul_one, Nat.mul_one, show k + 10 + v - (k + 10) = v by omega]
      unfold bD
      rw [List.map_take, List.map_drop]
    have hcv3 : (bD b).take (en * 1) = bD (b.take en) := by rw [Nat.mul_one]; exact List.map_take.symm
    generalize hs0 : spB b = sp at hcv1 hsl hk
    have hsp : sp ≤ b.length := by omega
    have hkb : k ≤ 1000001 := by omega
    rcases hxn with ⟨hr, rfl⟩ | ⟨hno, rfl, rfl⟩
    · obtain ⟨f, hmd⟩ := fnd x hr
      have f1 := f.fits
      have f2 := f.len
      have f3 := f.small
      have f4 := f.val
      have f5 := f.name
      have f6 := f.data
      have f7 := f.all
      have fs := f.sp
      rw [← hmd] at f1 f2 f4 f6 f7
      rw [hs0] at f1 f2 f5 f6 f7 fs
      rw [hnv] at f4
      rw [← f4, hk] at f1 f2 f6 f7
      rw [hE] at f2 f7
      rw [f5] at hcv1
      rw [f6] at hcv2
      rw [f7] at hcv3
      have hne : ¬ (k : Int) = (sp : Int) + 1 := by
        have := digs_pos 10 x.2.length
        have := f.dd
        omega
      obtain ⟨e1, e2, _⟩ := err_ok hr.1
      have := first_t3 rfl b hb sp k v en hsp hkb hv0 hE hne (by omega) (by omega) x.1 x.2 hcv1 hcv2 (by omega) (by omega) hr.1 (encW x) hcv3 false (by
        rw [show encW (x.1, x.2) = encW x from rfl]
        have h1 : decide (((encW x).length : Int) ≠ (en : Int)) = false := decide_eq_false (by omega)
        rw [h1]; simp)
      rw [f2]
      simpa using this
    · by_cases c1 : (k : Int) = (sp : Int) + 1
      · exact first_t1 rfl b hb sp k v en hsp hkb hv0 hE (.inl c1)
      by_cases c2 : (65536 : Int) < (v : Int)
      · exact first_t1 rfl b hb sp k v en hsp hkb hv0 hE (.inr (.inl ⟨c1, c2⟩))
      by_cases c3 : (b.length : Int) < (en : Int)
      · exact first_t1 rfl b hb sp k v en hsp hkb hv0 hE (.inr (.inr ⟨c1, c2, c3⟩))
      have hl1 : (b.take sp).length ≤ b.length := by rw [List.length_take]; omega
      have hl2 : ((b.drop (k + 10)).take v).length ≤ b.length := by rw [List.length_take, List.length_drop]; omega
      by_cases he : errE (b.take sp, (b.drop (k + 10)).take v) = 0
      · have hz : ¬ encW (b.take sp, (b.drop (k + 10)).take v) = b.take en := fun h => hno _ ⟨he, by rw [h]; exact List.take_prefix _ _⟩
        have := first_t3 rfl b hb sp k v en hsp hkb hv0 hE c1 c2 c3 _ _ hcv1 hcv2 hl1 hl2 he _ hcv3 true (by rw [decide_eq_true hz, Bool.or_true])
        simpa using this
      · exact first_t2 rfl b hb sp k v en hsp hkb hv0 hE c1 c2 c3 _ _ hcv1 hcv2 hl1 hl2 he
  by_cases h : ∃ e, Reads b e
  · obtain ⟨e, he⟩ := h
    exact ⟨e, _, .inl ⟨he, rfl⟩, key e _ (.inl ⟨he, rfl⟩)⟩
  · exact ⟨([], []), 0, .inr ⟨fun e he => h ⟨e, he⟩, rfl, rfl⟩, key _ _ (.inr ⟨fun e he => h ⟨e, he⟩, rfl, rfl⟩)⟩
end Go.Proofs.YtjmljmappfhiaaaDoor
