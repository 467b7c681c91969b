/- Contracts over data: the log reads an entry (parts). No condition. -/
import Derived.Test.YtjmljmappfhiaaaDoorYP2
import Derived.Test.YtjmljmappfhiaaaDoorYZe

set_option linter.unusedSimpArgs false
set_option linter.unusedVariables false
set_option maxHeartbeats 8000000
set_option maxRecDepth 8000
namespace Go.Proofs.YtjmljmappfhiaaaDoor
open Go Go.RowKit Go.PP Go.Dm

theorem run_take (p : UInt8 → Bool) : ∀ (b : Bs) (n : Nat), run p (b.take n) = min (run p b) n
  | [], n => by simp [run]
  | c :: b, 0 => by simp [run]
  | c :: b, n + 1 => by
    have := run_take p b n
    unfold run at this ⊢
    rw [List.take_succ_cons, List.takeWhile_cons, List.takeWhile_cons]
    split
    · simp only [List.length_cons, this]; omega
    · simp
noncomputable abbrev code47 : Code := Tryd.f47.body.getD .skip
/-- The state ahead of the digits, and behind them. -/
noncomputable abbrev st47 (b y1 rb : Bs) : DS := ⟨[(0, bytesD b), (2, .ref 2 0), (3, .flat (.int .i64 0)), (4, .flat (.bool false)), (5, bytesD y1), (6, bytesD rb)], [(2, some (.box [strD [], strD []]))]⟩
noncomputable abbrev st47b (b y1 rb : Bs) (dd : Nat) : DS := ⟨[(0, bytesD b), (2, .ref 2 0), (3, .flat (.int .i64 0)), (4, .flat (.bool false)), (5, bytesD y1), (6, bytesD rb), (8, .flat (.int .i64 dd))], [(2, some (.box [strD [], strD []]))]⟩
noncomputable abbrev st47c (b y1 : Bs) (v hd : Nat) : DS := ⟨[(0, bytesD b), (2, .ref 2 0), (3, .flat (.int .i64 0)), (4, .flat (.bool false)), (5, bytesD y1), (9, .flat (.int .u64 v)), (10, .flat .nilIface), (11, .flat (.int .i64 hd))], [(2, some (.box [strD [], strD []]))]⟩
end Go.Proofs.YtjmljmappfhiaaaDoor

set_option linter.unusedSimpArgs false
set_option linter.unusedVariables false
set_option maxHeartbeats 8000000
set_option maxRecDepth 8000
namespace Go.Proofs.YtjmljmappfhiaaaDoor
open Go Go.RowKit Go.PP Go.Dm

theorem read_l {c : Code} (hsel : selC [1, 1, 1, 1, 1, 0, 2] code47 = some c) (b y1 rb : Bs) (hb : rb.length ≤ 1000000) :
    DW Tryd.prog 110 c ⟨[(8, .flat (.int .i64 0)), (0, bytesD b), (2, .ref 2 0), (3, .flat (.int .i64 0)), (4, .flat (.bool false)), (5, bytesD y1), (6, bytesD rb)], [(2, some (.box [strD [], strD []]))]⟩ (Blk 0 (fun e s => e = .normal ∧ Sub 110 s (st47b b y1 rb (run digC rb)))) := by
  have hdl := run_le digC rb
  refine DW.sel hsel (by rfl) ?_
  refine DW.loopA (fun j : Nat => ⟨[(0, bytesD b), (2, .ref 2 0), (3, .flat (.int .i64 0)), (4, .flat (.bool false)), (5, bytesD y1), (6, bytesD rb), (8, .flat (.int .i64 j))], [(2, some (.box [strD [], strD []]))]⟩) (fun j => j ≤ run digC rb) (fun j => run digC rb - j) 0 ?_ (by omega)
  intro j hj
  rcases Nat.lt_or_ge j (run digC rb) with hlt | hge
  · obtain ⟨c, hc, hq⟩ := run_at (p := digC) (b := rb) (i := j) hlt
    have hp := bD_at hc
    have hlr : j < rb.length := (List.getElem?_eq_some_iff.1 hc).1
    unfold digC at hq
    simp at hq
    refine DW.walk ?_
    exact ⟨j + 1, by omega, by omega, Sub.auto⟩
  · have hje : j = run digC rb := by omega
    subst hje
    rcases Nat.lt_or_ge (run digC rb) rb.length with hl | hl
    · obtain ⟨c, hc, hq⟩ := run_end (p := digC) hl
      have hp := bD_at hc
      unfold digC at hq
      simp at hq
      by_cases h48 : (48 : Int) ≤ c.toNat
      · refine DW.walk ?_
        exact ⟨rfl, Sub.auto⟩
      · refine DW.walk ?_
        exact ⟨rfl, Sub.auto⟩
    · refine DW.walk ?_
      exact ⟨rfl, Sub.auto⟩
/-- ParseUint fails. -/
theorem read_bad {c : Code} (hsel : selC [1, 1, 1, 1, 1, 1] code47 = some c) (b y1 rb s : Bs) (dd : Nat) (hdd : dd ≤ rb.length) (hrb : rb.length ≤ 1000000) (hyl : y1.length ≤ 1000000) (hcs : (bD rb).take (dd * 1) = bD s) (v : Nat) (hpd : DFun Tryd.prog 53 [strD s, .flat (.int .i64 10), .flat (.int .i64 31)] (.tup [.flat (.int .u64 v), .ifn])) :
    DW Tryd.prog 110 c (st47b b y1 rb dd) (QF Tryd.prog Tryd.f47 (.tup [entD ([], []), .flat (.int .i64 0), .flat (.bool false)])) := by
  refine DW.sel hsel (by rfl) ?_
  refine DW.walk ?_
  exact ⟨.inr rfl, ResOk.cellTmp2 [] rfl rfl rfl ag29 sz29 (part_all (cs := [_, _])) rfl rfl trivial (Vw.agg (VwL.pers rfl)) (Vw.pers rfl) (Vw.pers rfl)⟩
end Go.Proofs.YtjmljmappfhiaaaDoor

set_option linter.unusedSimpArgs false
set_option linter.unusedVariables false
set_option maxHeartbeats 8000000
set_option maxRecDepth 8000
namespace Go.Proofs.YtjmljmappfhiaaaDoor
open Go Go.RowKit Go.PP Go.Dm

theorem read_few {c : Code} (hsel : selC [1, 1, 1, 1, 1, 1] code47 = some c) (b y1 rb s : Bs) (dd : Nat) (hdd : dd ≤ rb.length) (hrb : rb.length ≤ 1000000) (hb : b.length ≤ 1000000) (hyl : y1.length ≤ 32) (hcs : (bD rb).take (dd * 1) = bD s) (v : Nat) (hv : v ≤ 2147483647) (hpd : DFun Tryd.prog 53 [strD s, .flat (.int .i64 10), .flat (.int .i64 31)] (.tup [.flat (.int .u64 v), .flat .nilIface])) (hd : Nat) (hh : y1.length + 1 + dd + 10 = hd)
    (hc : (65536 : Int) < (v : Int) ∨ (¬ (65536 : Int) < (v : Int) ∧ (b.length : Int) ≤ (hd : Int) + (v : Int))) :
    DW Tryd.prog 110 c (st47b b y1 rb dd) (QF Tryd.prog Tryd.f47 (.tup [entD ([], []), .flat (.int .i64 0), .flat (.bool false)])) := by
  refine DW.sel hsel (by rfl) ?_
  refine DW.walkTo 10 ?_
  refine DW.sub (s' := st47c b y1 v hd) Sub.auto ?_
  rcases hc with c2 | ⟨c2, c3⟩
  · refine DW.walk ?_
    exact ⟨.inr rfl, ResOk.cellTmp2 [] rfl rfl rfl ag29 sz29 (part_all (cs := [_, _])) rfl rfl trivial (Vw.agg (VwL.pers rfl)) (Vw.pers rfl) (Vw.pers rfl)⟩
  · refine DW.walk ?_
    exact ⟨.inr rfl, ResOk.cellTmp2 [] rfl rfl rfl ag29 sz29 (part_all (cs := [_, _])) rfl rfl trivial (Vw.agg (VwL.pers rfl)) (Vw.pers rfl) (Vw.pers rfl)⟩
end Go.Proofs.YtjmljmappfhiaaaDoor

set_option linter.unusedSimpArgs false
set_option linter.unusedVariables false
set_option maxHeartbeats 8000000
set_option maxRecDepth 8000
namespace Go.Proofs.YtjmljmappfhiaaaDoor
open Go Go.RowKit Go.PP Go.Dm

theorem encW_lenY (e : Bs × Bs) (h1 : e.1.length ≤ 32) (h2 : e.2.length ≤ 65536) : (encW e).length ≤ 65600 := by
  have hdl : (Lib.decDigits e.2.length).length ≤ 6 := by
    rw [dec_digs]
    exact Nat.le_trans (digs_len1 10 (by omega) 5 e.2.length (by omega)) (by omega)
  unfold encW
  have := nibs_len (sumB (e.1 ++ [10] ++ e.2)).toNat 8
  simp only [List.length_append, List.length_cons, List.length_nil, this]
  omega
theorem read_all {c : Code} (hsel : selC [1, 1, 1, 1, 1, 1] code47 = some c) (b y1 rb s : Bs) (dd : Nat) (hdd : dd ≤ rb.length) (hrb : rb.length ≤ 1000000) (hb : b.length ≤ 1000000) (hyl : y1.length ≤ 32) (hcs : (bD rb).take (dd * 1) = bD s) (v : Nat) (hv : v ≤ 2147483647) (hpd : DFun Tryd.prog 53 [strD s, .flat (.int .i64 10), .flat (.int .i64 31)] (.tup [.flat (.int .u64 v), .flat .nilIface])) (hd : Nat) (hh : y1.length + 1 + dd + 10 = hd)
    (c2 : ¬ (65536 : Int) < (v : Int)) (c3 : ¬ (b.length : Int) ≤ (hd : Int) + (v : Int)) (y2 : Bs) (hcv2 : ((bD b).drop (hd * 1)).take ((hd + v - hd) * 1) = bD y2) (hl2 : y2.length ≤ v) (r : Bool) (hr : r = (decide (errE (y1, y2) = 0) && (encW (y1, y2)).isPrefixOf b)) :
    DW Tryd.prog 110 c (st47b b y1 rb dd) (QF Tryd.prog Tryd.f47 (.tup [entD (if r then (y1, y2) else ([], [])), .flat (.int .i64 (if r then ((encW (y1, y2)).length : Int) else 0)), .flat (.bool r)])) := by
  refine DW.sel hsel (by rfl) ?_
  refine DW.walkTo 10 ?_
  refine DW.sub (s' := st47c b y1 v hd) Sub.auto ?_
  have hc := check_d (y1, y2) (by simp only; omega) (by simp only; omega)
  have hby := bytes_d (y1, y2) (by simp only; omega) (by simp only; omega)
  have hzl := encW_lenY (y1, y2) (by simp only; omega) (by simp only; omega)
  have hpf := hasPrefix_d b (encW (y1, y2)) hb (by omega)
  by_cases he : errE (y1, y2) = 0
  · rw [decide_eq_true he, Bool.true_and] at hr
    rw [he] at hc
    rw [← hr] at hpf
    generalize encW (y1, y2) = z at hby hpf hzl
    cases r with
    | true =>
      refine DW.walk ?_
      exact ⟨.inr rfl, ResOk.cellTmp2 [] rfl rfl rfl ag29 sz29 (part_all (cs := [_, _])) rfl rfl trivial (Vw.agg (VwL.pers rfl)) (Vw.pers rfl) (Vw.pers rfl)⟩
    | false =>
      refine DW.walk ?_
      exact ⟨.inr rfl, ResOk.cellTmp2 [] rfl rfl rfl ag29 sz29 (part_all (cs := [_, _])) rfl rfl trivial (Vw.agg (VwL.pers rfl)) (Vw.pers rfl) (Vw.pers rfl)⟩
  · have hei : decide (errE (y1, y2) = 0) = false := decide_eq_false he
    rw [hei, Bool.false_and] at hr
    subst hr
    generalize errE (y1, y2) = er at hc he hei
    generalize encW (y1, y2) = z at hby hpf hzl
    refine DW.walk ?_
    exact ⟨.inr rfl, ResOk.cellTmp2 [] rfl rfl rfl ag29 sz29 (part_all (cs := [_, _])) rfl rfl trivial (Vw.agg (VwL.pers rfl)) (Vw.pers rfl) (Vw.pers rfl)⟩
end Go.Proofs.YtjmljmappfhiaaaDoor

set_option linter.unusedSimpArgs false
set_option linter.unusedVariables false
set_option maxHeartbeats 8000000
set_option maxRecDepth 8000
namespace Go.Proofs.YtjmljmappfhiaaaDoor
open Go Go.RowKit Go.PP Go.Dm

theorem read_d (b : Bs) (hb : b.length ≤ 1000000) : ∃ x : Bs × Bs, ∃ n : Nat, ∃ r : Bool, ((Reads b x ∧ n = (encW x).length ∧ r = true) ∨ ((∀ e, ¬ Reads b e) ∧ x = ([], []) ∧ n = 0 ∧ r = false)) ∧ DFun Tryd.prog 47 [bytesD b] (.tup [entD x, .flat (.int .i64 n), .flat (.bool r)]) := by
  have hsl : spB b ≤ b.length := run_le noSp b
  have hrl : (restB b).length = b.length - (spB b + 1) := by simp
  have hdl : ddB b ≤ (restB b).length := run_le digC (restB b)
  obtain ⟨rd, hrd, hcut⟩ := cutSp_d (b.take 33) (by simp; omega)
  rw [run_take, List.take_take] at hcut
  have hcp : D.sl false 1 (min b.length 33) ((bD b).take (min b.length 33 * 1)) = bytesD (b.take 33) := by
    unfold bytesD
    rw [List.length_take, Nat.min_comm, Nat.mul_one]
    congr 1
    unfold bD
    rw [← List.map_take]
    congr 1
    exact List.take_eq_take_min.symm
  rw [← hcp] at hcut
  have hmin : (if (33 : Int) < (b.length : Int) then 33 else (b.length : Int)) = ((min b.length 33 : Nat) : Int) := by split <;> omega
  have hml : min b.length 33 ≤ b.length := Nat.min_le_left _ _
  rw [List.length_take] at hcut
  have key : ∀ (x : Bs × Bs) (n : Nat) (r : Bool), ((Reads b x ∧ n = (encW x).length ∧ r = true) ∨ ((∀ e, ¬ Reads b e) ∧ x = ([], []) ∧ n = 0 ∧ r = false)) → DFun Tryd.prog 47 [bytesD b] (.tup [entD x, .flat (.int .i64 n), .flat (.bool r)]) := by
    intro x n r hxn
    refine DFun.enterA Tryd.func47 Tryd.ntmps47 ?_
    by_cases hf : spB b < 33 ∧ spB b < b.length
    · rw [show min (min (spB b) 33) 33 = spB b by omega, show min (spB b) 33 = spB b by omega, decide_eq_true (show spB b < min 33 b.length by omega)] at hcut
      generalize hy1 : b.take (spB b) = y1 at hcut
      have hl1 : y1.length = spB b := by rw [← hy1, List.length_take]; omega
      have hcr : D.sl false 1 (b.length - (y1.length + 1)) ((bD b).drop ((y1.length + 1) * 1)) = bytesD (restB b) := by
        unfold bytesD
        rw [hrl, hl1, Nat.mul_one]
        congr 1
        unfold bD
        rw [← List.map_drop]
      have hy1l : y1.length + 1 ≤ b.length := by omega
      have hdig : ∀ c ∈ (restB b).take (ddB b), digC c = true := fun c hc => by
        obtain ⟨i, hi⟩ := List.getElem?_of_mem hc
        rw [List.getElem?_take] at hi
        split at hi
        · obtain ⟨d, hd, hq⟩ := run_at (p := digC) (b := restB b) (i := i) (by assumption)
          rw [hi] at hd; cases hd; exact hq
        · cases hi
      have hrbl : (restB b).length ≤ 1000000 := by omega
      have hpar := parse_d ((restB b).take (ddB b)) hdig (by rw [List.length_take]; omega)
      have hcs : (bD (restB b)).take (ddB b * 1) = bD ((restB b).take (ddB b)) := by rw [Nat.mul_one]; exact List.map_take.symm
      refine DW.walkTo 5 ?_
      refine DW.sub (s' := st47 b y1 (restB b)) Sub.auto ?_
      refine DW.walk ?_
      refine DW.cutB (st47b b y1 (restB b) (ddB b)) (DW.sub Sub.auto (read_l rfl b y1 (restB b) hrbl)) ?_
      generalize hss : (restB b).take (ddB b) = s at hpar hcs hdig
      rcases hpar with ⟨hs0, hv, hpd⟩ | ⟨hbad, v, hpd⟩
      · generalize hvv : valD s = v at hv hpd
        generalize hh : spB b + 1 + ddB b + 10 = hd
        have hcv2 : ((bD b).drop (hd * 1)).take ((hd + v - hd) * 1) = bD ((b.drop hd).take v) := by
          rw [Nat.mul_one, Nat.mul_one, show hd + v - hd = v by omega]
          unfold bD
          rw [List.map_take, List.map_drop]
        rcases hxn with ⟨hr, rfl, rfl⟩ | ⟨hno, rfl, rfl, rfl⟩
        · have f := hr.found
          have f1 := f.fits
          have f3 := f.small
          have f4 := f.val
          have f5 := f.name
          have f6 := f.data
          rw [hss, hvv] at f4
          rw [hy1] at f5
          rw [hh] at f1 f6
          rw [← f4] at f1 f6
          rw [f6] at hcv2
          subst f5
          obtain ⟨e1, e2, _⟩ := err_ok hr.1
          have := read_all rfl b x.1 (restB b) s (ddB b) hdl hrbl hb e1 hcs v hv hpd hd (by omega) (by omega) (by omega) x.2 hcv2 (by omega) true (by
            rw [show (x.1, x.2) = x from rfl, hr.1, List.isPrefixOf_iff_prefix.2 hr.2]; rfl)
          simpa using this
        · by_cases c2 : (65536 : Int) < (v : Int)
          · exact read_few rfl b y1 (restB b) s (ddB b) hdl hrbl hb (by omega) hcs v hv hpd hd (by omega) (.inl c2)
          by_cases c3 : (b.length : Int) ≤ (hd : Int) + (v : Int)
          · exact read_few rfl b y1 (restB b) s (ddB b) hdl hrbl hb (by omega) hcs v hv hpd hd (by omega) (.inr ⟨c2, c3⟩)
          have hz : (decide (errE (y1, (b.drop hd).take v) = 0) && (encW (y1, (b.drop hd).take v)).isPrefixOf b) = false := by
            cases h : (decide (errE (y1, (b.drop hd).take v) = 0) && (encW (y1, (b.drop hd).take v)).isPrefixOf b) with
            | false => rfl
            | true =>
              rw [Bool.and_eq_true] at h
              exact absurd ⟨of_decide_eq_true h.1, List.isPrefixOf_iff_prefix.1 h.2⟩ (hno _)
          have := read_all rfl b y1 (restB b) s (ddB b) hdl hrbl hb (by omega) hcs v hv hpd hd (by omega) c2 c3 _ hcv2 (by rw [List.length_take]; omega) false hz.symm
          simpa using this
      · rcases hxn with ⟨hr, rfl, rfl⟩ | ⟨hno, rfl, rfl, rfl⟩
        · exfalso
          have f := hr.found
          have f4 := f.val
          have f7 := f.digs
          have f3 := f.small
          rw [hss] at f4 f7
          have := digs_pos 10 x.2.length
          rcases hbad with h | h
          · rw [h] at f7
            rw [← f7] at this
            simp at this
          · omega
        · exact read_bad rfl b y1 (restB b) s (ddB b) hdl hrbl (by omega) hcs v hpd
    · have hno : ∀ e, ¬ Reads b e := fun e he => by
        have f := he.found
        have h1 := f.sp
        have h2 := f.short
        have h3 := (List.getElem?_eq_some_iff.1 f.at_sp).1
        exact hf ⟨by omega, h3⟩
      rcases hxn with ⟨hr, _⟩ | ⟨_, rfl, rfl, rfl⟩
      · exact absurd hr (hno x)
      · rw [decide_eq_false (show ¬ min (spB b) 33 < min 33 b.length by omega)] at hcut
        refine DW.walk ?_
        exact ⟨.inr rfl, ResOk.cellTmp2 [] rfl rfl rfl ag29 sz29 (part_all (cs := [_, _])) rfl rfl trivial (Vw.agg (VwL.pers rfl)) (Vw.pers rfl) (Vw.pers rfl)⟩
  by_cases h : ∃ e, Reads b e
  · obtain ⟨e, he⟩ := h
    exact ⟨e, _, true, .inl ⟨he, rfl, rfl⟩, key e _ true (.inl ⟨he, rfl, rfl⟩)⟩
  · exact ⟨([], []), 0, false, .inr ⟨fun e he => h ⟨e, he⟩, rfl, rfl, rfl⟩, key _ _ _ (.inr ⟨fun e he => h ⟨e, he⟩, rfl, rfl, rfl⟩)⟩
end Go.Proofs.YtjmljmappfhiaaaDoor
