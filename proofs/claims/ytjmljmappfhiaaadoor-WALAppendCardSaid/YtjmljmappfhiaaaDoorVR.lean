/- The law of appending. No condition. -/
import Derived.Test.YtjmljmappfhiaaaDoorVPb
set_option linter.unusedSimpArgs false
set_option linter.unusedVariables false
set_option maxHeartbeats 8000000
set_option maxRecDepth 8000
namespace Go.Proofs.YtjmljmappfhiaaaDoor
open Go Go.RowKit Go.PP Go.Dm

theorem law3_d (l : List (Bs × Bs)) (b : Bs) (hl : l.length ≤ 140737488351232) (hb : ∀ e ∈ l, e.1.length ≤ 140737488351232 ∧ e.2.length ≤ 140737488351232) (hbl : b.length ≤ 140737488351232) : DFun Tryd.prog 3 [entsD l, bytesD b] (.flat (.bool true)) := by
  have hcut := cut_d l (by omega) (fun e he => by have := (hb e he).2; omega)
  have hcl := cut_small l
  have hcm := cut_mem (l := l) (fun e he => by have := (hb e he).1; omega)
  generalize cutE l = c at hcut hcl hcm
  have hn := new_l
  have hmin : (if (2000 : Int) < (b.length : Int) then 2000 else (b.length : Int)) = ((min b.length 2000 : Nat) : Int) := by split <;> omega
  have hml : min b.length 2000 ≤ b.length := Nat.min_le_left _ _
  have hbt : D.sl false 1 (min b.length 2000) ((bD b).take (min b.length 2000 * 1)) = bytesD (b.take 2000) := by
    unfold bytesD
    rw [List.length_take, Nat.min_comm, Nat.mul_one]
    congr 1
    unfold bD
    rw [← List.map_take]
    congr 1
    exact List.take_eq_take_min.symm
  have hbl2 : (b.take 2000).length ≤ 2000 := by simp; omega
  generalize b.take 2000 = b2 at hbt hbl2
  refine DFun.enterA Tryd.func3 Tryd.ntmps3 ?_
  refine DW.walkTo 3 ?_
  refine DW.sub (s' := ⟨[(0, entsD c), (1, bytesD b2)], []⟩) Sub.auto ?_
  refine DW.walk ?_
  refine DW.adopt 6 6 31 2 rfl rfl ?_
  refine DW.adoptBox 429496729600001 0 429496729600002 29 2 rfl rfl rfl ?_
  refine DW.loopA (fun j : Nat => ⟨[(0, entsD c), (1, bytesD b2), (5, .ref 429496729600001 0), (6, .own 6 (goodE (c.take j)).length), (7, .flat (.int .i64 j))], [(429496729600001, some (.box [.own 429496729600002 (goodE (c.take j)).length])), (429496729600002, some (.row 29 2 (goodE (c.take j)).length (entsC (goodE (c.take j))))), (6, some (.row 31 2 (goodE (c.take j)).length (entsC (goodE (c.take j))))), (8, none)]⟩) (fun j => j ≤ c.length) (fun j => c.length - j) 0 ?_ (by omega)
  intro j hj
  rcases Nat.lt_or_ge j c.length with hlt | hge
  · obtain ⟨e, he⟩ : ∃ e, c[j]? = some e := ⟨c[j], by simp⟩
    have h0 := ent_f0 he
    have h1 := ent_f1 he
    have h2 := ent_part he
    have hbe := hcm e (List.mem_of_getElem? he)
    have hck := checkN_d e hbe.1 hbe.2
    have hf : goodE (c.take (j + 1)) = goodE (c.take j) ++ (if okE e then [e] else []) := filter_take okE he
    have hfl : (goodE (c.take j)).length ≤ j := Nat.le_trans (List.length_filter_le _ _) (by simp; omega)
    by_cases hp : errE e = 0
    · have hp' : okE e = true := decide_eq_true hp
      have ha := append_ok (goodE (c.take j)) (by omega) e hp
      obtain ⟨g1, g2, _⟩ := err_ok hp
      have hby := bytesN_d e g1 g2
      rw [← encW_eq] at hby
      rw [hp] at hck
      rw [if_pos hp'] at hf
      have hlen : (goodE (c.take j)).length + 1 = (goodE (c.take (j + 1))).length := by rw [hf]; simp
      have hrow : entsC (goodE (c.take j)) ++ [strD e.1, strD e.2] = entsC (goodE (c.take (j + 1))) := by rw [hf]; simp [entsC, entC]
      have hpe := entsC_pers (goodE (c.take j))
      have hpe2 := entsC_pers (goodE (c.take (j + 1)))
      rw [← hf] at ha
      unfold logB at ha
      generalize encW e = z at ha hby
      have hne : decide (z ≠ z) = false := by simp
      refine DW.walk ?_
      exact ⟨j + 1, by omega, by omega, Sub.auto⟩
    · have hp' : okE e = false := decide_eq_false hp
      have ha := append_err (goodE (c.take j)) (by omega) e hbe.1 hbe.2 hp
      have hpi : decide (errE e ≠ 0) = true := decide_eq_true hp
      rw [hp'] at hf
      simp only [Bool.false_eq_true, if_false, List.append_nil] at hf
      have hpe := entsC_pers (goodE (c.take j))
      unfold logB at ha
      generalize errE e = x at hck hpi hp ha
      have hxx : decide (x ≠ x) = false := by simp
      refine DW.walk ?_
      refine ⟨j + 1, by omega, by omega, ?_⟩
      rw [hf]
      exact Sub.auto
  · have hje : j = c.length := by omega
    subst hje
    rw [List.take_length]
    have hgl : (goodE c).length ≤ 30 := Nat.le_trans (List.length_filter_le _ _) hcl
    have hsm := good_sm (l := c) (by omega)
    generalize goodE c = w at hgl hsm
    have h16 := known_d
    have h19 := entries_d w (by omega)
    have h18 := to_d w (by omega)
    have h17 := same_d w w (by omega) (by omega)
    rw [decide_eq_true rfl] at h17
    have h20 := bytesL_d w hsm
    have h21 := allR_d w hsm
    have h22 := len_d w (by omega)
    have h23 := checksum_d b2 (by omega)
    have h24 := sum_d b2 (by omega)
    refine DW.walkTo 21 ?_
    refine DW.sub (s' := ⟨[(1, bytesD b2), (5, .ptr [entsD w] 0), (6, entsD w)], []⟩) (Sub.of trivial ⟨Vs.pers rfl, Vs.shutLog rfl rfl rfl rfl rfl, Vs.shutOwn' rfl rfl rfl rfl rfl (entsC_pers _), trivial⟩) ?_
    generalize allW w = z at h20 h21
    have hd1 : decide (z = z) = true := by simp
    have hd2 : decide ((w.length : Int) = w.length) = true := by simp
    have hd3 : decide (((sumB b2).toNat : Int) = (sumB b2).toNat) = true := by simp
    refine DW.walk ?_
    exact ⟨.inr rfl, ResOk.one [] rfl rfl trivial (Vw.p rfl (Le.of_eq (show D.flat (Value.bool (decide (((sumB b2).toNat : Int) = (sumB b2).toNat))) = D.flat (.bool true) by rw [hd3])))⟩
end Go.Proofs.YtjmljmappfhiaaaDoor
