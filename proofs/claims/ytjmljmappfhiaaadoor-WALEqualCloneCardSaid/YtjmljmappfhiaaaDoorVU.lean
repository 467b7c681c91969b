/- The law of equality and clones. No condition. -/
import Derived.Test.YtjmljmappfhiaaaDoorVPb
set_option linter.unusedSimpArgs false
set_option linter.unusedVariables false
set_option maxHeartbeats 8000000
set_option maxRecDepth 8000
namespace Go.Proofs.YtjmljmappfhiaaaDoor
open Go Go.RowKit Go.PP Go.Dm

theorem entsC_set : ∀ {l : List (Bs × Bs)} {j : Nat} {e : Bs × Bs} (s : Bs), l[j]? = some e → spliceD (entsC l) (j * 2 + 1) [strD s] = entsC (l.set j (e.1, s))
  | [], j, e, s, h => by simp at h
  | a :: l, 0, e, s, h => by
    simp at h; subst h
    rfl
  | a :: l, j + 1, e, s, h => by
    have ih := entsC_set (l := l) (j := j) (e := e) s (by simpa using h)
    have h2 : (j + 1) * 2 + 1 = (j * 2 + 1) + 2 := by omega
    rw [h2, List.set_cons_succ]
    show spliceD (strD a.1 :: strD a.2 :: entsC l) (j * 2 + 1 + 2) [strD s] = strD a.1 :: strD a.2 :: entsC (l.set j (e.1, s))
    rw [← ih]
    unfold spliceD
    simp
theorem bD_set {l : Bs} {j : Nat} (c : UInt8) (h : j < l.length) : spliceD (bD l) (j * 1) [.flat (.int .u8 c.toNat)] = bD (l.set j c) := by
  unfold spliceD bD
  rw [Nat.mul_one, List.set_eq_take_append_cons_drop, if_pos h]
  simp [List.map_take, List.map_drop]
theorem law5_d (l m : List (Bs × Bs)) (more : Bs × Bs) (hl : l.length ≤ 140737488351232) (hb : ∀ e ∈ l, e.1.length ≤ 140737488351232 ∧ e.2.length ≤ 140737488351232) (hl2 : m.length ≤ 140737488351232) (hb2 : ∀ e ∈ m, e.1.length ≤ 140737488351232 ∧ e.2.length ≤ 140737488351232)
    (hm1 : more.1.length ≤ 140737488351232) (hm2 : more.2.length ≤ 140737488351232) : DFun Tryd.prog 5 [entsD l, entsD m, entD more] (.flat (.bool true)) := by
  have hcut := cut_d l (by omega) (fun e he => by have := (hb e he).2; omega)
  have hcl := cut_small l
  have hcm := cut_mem (l := l) (fun e he => by have := (hb e he).1; omega)
  generalize cutE l = c at hcut hcl hcm
  have hcut2 := cut_d m (by omega) (fun e he => by have := (hb2 e he).2; omega)
  have hcl2 := cut_small m
  have hcm2 := cut_mem (l := m) (fun e he => by have := (hb2 e he).1; omega)
  generalize cutE m = c2 at hcut2 hcl2 hcm2
  have hmade := made_d c (by omega) hcm
  have hgl : (goodE c).length ≤ 30 := Nat.le_trans (List.length_filter_le _ _) hcl
  have hsm := good_sm (l := c) (by omega)
  generalize goodE c = x at hmade hgl hsm
  have hmade2 := made_d c2 (by omega) hcm2
  have hgl2 : (goodE c2).length ≤ 30 := Nat.le_trans (List.length_filter_le _ _) hcl2
  generalize goodE c2 = y at hmade2 hgl2
  have h32 := equal_d x y (by omega) (by omega)
  have h17 := same_d x y (by omega) (by omega)
  generalize decide (x = y) = bxy at h32 h17
  have h32n := equal_n x
  have hbb : (!(bxy == bxy)) = false := by simp
  have h33 := clone_l x (by omega)
  have h32c := equal_d x x (by omega) (by omega)
  rw [decide_eq_true rfl] at h32c
  have h19 := entries_l x (by omega)
  have h20 := bytesL_l x hsm
  have hal := allW_len hsm x.length (by omega)
  rw [List.take_length] at hal
  have hpx := entsC_pers x
  obtain ⟨m1, m2⟩ := more
  simp only at hm1 hm2
  unfold logB at h33
  have hid : IdAt 5 5 := IdAt.of _ _
  refine DFun.enterA Tryd.func5 Tryd.ntmps5 ?_
  refine DW.walk ?_
  refine DW.loopA (fun q : Nat × List (Bs × Bs) => ⟨[(5, .ref 5 0), (7, .ptr [entsD x] 0), (8, entsD x), (11, .ref 429496729600001 0), (12, .own 1040 q.2.length), (13, .own 1050 (allW x).length), (14, .flat (.int .i64 q.1))], [(5, some (.box [strD m1, strD m2])), (429496729600001, some (.box [.own 429496729600002 x.length])), (429496729600002, some (.row 29 2 x.length (entsC x))), (1040, some (.row 29 2 q.2.length (entsC q.2))), (1050, some (.row 5 1 (allW x).length (bD (allW x))))]⟩) (fun q => q.1 ≤ x.length ∧ q.2.length = x.length ∧ ∀ i e, q.1 ≤ i → q.2[i]? = some e → e.2.length ≤ 65536) (fun q => x.length - q.1) (0, x) ?_ ⟨by omega, rfl, fun i e _ he => (hsm.2 e (List.mem_of_getElem? he)).2⟩
  rintro ⟨j, ys⟩ ⟨hj, hyl, hyb⟩
  simp only at hj hyl hyb ⊢
  have hpy := entsC_pers ys
  have hcy := entsC_len ys
  rcases Nat.lt_or_ge j x.length with hlt | hge
  · obtain ⟨e, he⟩ : ∃ e, ys[j]? = some e := ⟨ys[j]'(by omega), List.getElem?_eq_getElem (by omega)⟩
    have h1 := ent_f1 he
    have hset : List.take ((j : Int).toNat * 2 + 1) (entsC ys) ++ [strD (e.2 ++ [120])] ++ List.drop ((j : Int).toNat * 2 + 1 + 1) (entsC ys) = entsC (ys.set j (e.1, e.2 ++ [120])) := entsC_set (e.2 ++ [120]) he
    have hbe := hyb j e (by omega) he
    have hpy2 := entsC_pers (ys.set j (e.1, e.2 ++ [120]))
    have hsl : (ys.set j (e.1, e.2 ++ [120])).length = ys.length := List.length_set ..
    refine DW.walk ?_
    refine ⟨(j + 1, ys.set j (e.1, e.2 ++ [120])), ⟨by simp only; omega, by simp only; omega, fun i f hi hf => ?_⟩, by simp only; omega, ?_⟩
    · simp only at hi hf
      rw [List.getElem?_set, if_neg (by omega)] at hf
      exact hyb i f (by omega) hf
    · simp only
      exact Sub.auto
  · have hje : j = x.length := by omega
    subst hje
    have hpa := bD_pers (allW x)
    refine DW.walk ?_
    refine DW.loopA (fun q : Nat × Bs => ⟨[(5, .ref 5 0), (7, .ptr [entsD x] 0), (8, entsD x), (11, .ref 429496729600001 0), (13, .own 1050 q.2.length), (15, .flat (.int .i64 q.1))], [(5, some (.box [strD m1, strD m2])), (429496729600001, some (.box [.own 429496729600002 x.length])), (429496729600002, some (.row 29 2 x.length (entsC x))), (1050, some (.row 5 1 q.2.length (bD q.2)))]⟩) (fun q => q.1 ≤ q.2.length ∧ q.2.length ≤ 328000000) (fun q => q.2.length - q.1) (0, allW x) ?_ ⟨by simp only; omega, by simp only; omega⟩
    rintro ⟨j, zs⟩ ⟨hj, hzl⟩
    simp only at hj hzl ⊢
    have hpz := bD_pers zs
    have hbl : (bD zs).length = zs.length := by simp [bD]
    rcases Nat.lt_or_ge j zs.length with hlt | hge
    · have hset : spliceD (bD zs) (j * 1) [.flat (.int .u8 0)] = bD (zs.set j 0) := bD_set 0 hlt
      have hpz2 := bD_pers (zs.set j 0)
      have hsl : (zs.set j 0).length = zs.length := List.length_set ..
      refine DW.walk ?_
      refine ⟨(j + 1, zs.set j 0), ⟨by simp only; omega, by simp only; omega⟩, by simp only; omega, ?_⟩
      simp only
      rw [hsl]
      exact Sub.auto
    · have hmin : (if (200 : Int) < (m2.length : Int) then 200 else (m2.length : Int)) = ((min m2.length 200 : Nat) : Int) := by split <;> omega
      have hml : min m2.length 200 ≤ m2.length := Nat.min_le_left _ _
      refine DW.walkTo 18 ?_
      have hkl : (m2.take (min m2.length 200)).length ≤ 200 := by simp; omega
      generalize m2.take (min m2.length 200) = n2 at hkl
      have h16 := known_d
      have h19d := entries_d x (by omega)
      have h18 := to_d x (by omega)
      have h17d := same_d x x (by omega) (by omega)
      rw [decide_eq_true rfl] at h17d
      by_cases hp : errE (m1, n2) = 0
      · have ha := append_ok x (by omega) (m1, n2) hp
        have hxe : x ++ [(m1, n2)] ≠ x := fun h => by
          have := congrArg List.length h
          simp at this
        have h32e := equal_d (x ++ [(m1, n2)]) x (by simp; omega) (by omega)
        rw [decide_eq_false hxe] at h32e
        generalize hx2 : x ++ [(m1, n2)] = x2 at ha h32e
        have hpx2 := entsC_pers x2
        have hl2 : x2.length = x.length + 1 := by rw [← hx2]; simp
        unfold logB at ha
        generalize encW (m1, n2) = z at ha
        refine DW.walk ?_
        exact ⟨.inr rfl, ResOk.one [] rfl rfl trivial (Vw.pers rfl)⟩
      · have ha := append_err x (by omega) (m1, n2) (by simp only; omega) (by simp only; omega) hp
        unfold logB at ha
        have hpi : decide (errE (m1, n2) ≠ 0) = true := decide_eq_true hp
        generalize errE (m1, n2) = y0 at ha hp hpi
        refine DW.walk ?_
        exact ⟨.inr rfl, ResOk.one [] rfl rfl trivial (Vw.p rfl (Le.of_eq (show D.flat (Value.bool (true == decide (y0 ≠ 0))) = D.flat (.bool true) by rw [hpi]; rfl)))⟩
end Go.Proofs.YtjmljmappfhiaaaDoor
