/- Contracts over data: the reference: Div. No condition. -/
import Derived.Test.YtebbekdebanabaaDoorYN9

set_option linter.unusedSimpArgs false
set_option linter.unusedVariables false
set_option maxHeartbeats 4000000
set_option maxRecDepth 8000
namespace Go.Proofs.YtebbekdebanabaaDoor
open Go Go.RowKit Go.PP Go.Dm Go.Bn
theorem cons10 (d r : Nat) (hd : d < 10) : trimR (d :: dig 10 r) = dig 10 (10 * r + d) := by
  have hg : Dg 10 (d :: dig 10 r) := fun x hx => by
    rcases List.mem_cons.1 hx with rfl | hx
    · exact hd
    · exact dig_dg hB10 r x hx
  rw [trimR_dig hB10 hg]
  congr 1
  show d + 10 * val 10 (dig 10 r) = _
  rw [val_dig hB10]
  omega
/-- What is done of a division: the digits from the top. -/
structure DivT (m : Nat) (a : List Nat) (i : Nat) (out : List Nat) (r : Nat) : Prop where
  len : out.length = a.length
  dg : Dg 10 out
  lo : ∀ j, j < i → out[j]? = some 0
  v : val 10 (out.drop i) * m + r = val 10 (a.drop i)
  hr : r < m
theorem DivT.zero {m : Nat} (a : List Nat) (h : 0 < m) : DivT m a a.length (List.replicate a.length 0) 0 := ⟨List.length_replicate, fun d hd => (by rw [(List.mem_replicate.1 hd).2]; decide), fun j hj => by rw [List.getElem?_replicate, if_pos hj], by rw [List.drop_of_length_le (Nat.le_of_eq List.length_replicate), List.drop_of_length_le (Nat.le_refl _)]; show 0 * m + 0 = 0; omega, h⟩
theorem val_drop {l : List Nat} {i d : Nat} (h : l[i]? = some d) : val 10 (l.drop i) = d + 10 * val 10 (l.drop (i + 1)) := by
  have hi := (List.getElem?_eq_some_iff.1 h).1
  have e := List.drop_eq_getElem_cons (l := l) (i := i) hi
  rw [List.getElem?_eq_getElem hi] at h
  rw [e, Option.some.inj h]; rfl
/-- One place: j subtractions are done. -/
theorem DivT.step {m i j d r r2 : Nat} {a out : List Nat} (h : DivT m a (i + 1) out r) (hd : a[i]? = some d) (hj : r2 + j * m = 10 * r + d) (hr : r2 < m) (hj9 : j < 10) : DivT m a i (putN out i j) r2 := by
  have hi := (List.getElem?_eq_some_iff.1 hd).1
  have hl : i < out.length := by rw [h.len]; exact hi
  rw [put_set hl]
  refine ⟨by rw [List.length_set, h.len], h.dg.set hj9 _, fun k hk => ?_, ?_, hr⟩
  · rw [List.getElem?_set_ne (by omega)]
    exact h.lo k (by omega)
  · have h1 := h.v
    rw [val_drop hd, ← h1, val_drop (l := out.set i j) (d := j) (by rw [List.getElem?_set_self hl]), List.drop_set_of_lt (by omega)]
    rw [Nat.add_mul, Nat.mul_add 10, Nat.mul_assoc]
    omega
theorem DivT.done {m r : Nat} {a out : List Nat} (h : DivT m a 0 out r) : trimR out = dig 10 (val 10 a / m) ∧ r = val 10 a % m := by
  have h1 := h.v
  rw [List.drop_zero, List.drop_zero] at h1
  have hm : 0 < m := Nat.lt_of_le_of_lt (Nat.zero_le _) h.hr
  rw [trimR_dig hB10 h.dg, ← h1, Nat.mul_comm, Nat.mul_add_div hm, Nat.div_eq_of_lt h.hr, Nat.add_zero, Nat.mul_add_mod, Nat.mod_eq_of_lt h.hr]
  exact ⟨rfl, rfl⟩
theorem put_put {l : List Nat} {i : Nat} (h : i < l.length) (x y : Nat) : putN (putN l i x) i y = putN l i y := by
  rw [put_set h, put_set (by rw [List.length_set]; exact h), put_set h, List.set_set]
theorem set_same {l : List Nat} {i d : Nat} (h : l[i]? = some d) : l.set i d = l := by
  refine List.ext_getElem? fun j => ?_
  by_cases e : i = j
  · subst e
    rw [List.getElem?_set_self (List.getElem?_eq_some_iff.1 h).1, h]
  · rw [List.getElem?_set_ne e]
theorem dlen_up {x m : Nat} (h : x < m * 10) : (dig 10 x).length ≤ (dig 10 m).length + 1 := dig_len hB10 (by
  rw [Nat.pow_succ]
  exact Nat.lt_of_lt_of_le h (Nat.mul_le_mul_right _ (Nat.le_of_lt (dig_up hB10 m))))
abbrev dvO (a : List Nat) (m i r : Nat) (out : List Nat) : DS := ⟨[(0, isD a), (1, refD m), (6, .own 11 a.length), (7, refD r), (8, .flat (.int .i64 ((i : Int) - 1)))], [(11, some (.row 3 1 a.length (idL out)))]⟩
abbrev dvI (a : List Nat) (m i r : Nat) (out : List Nat) : DS := ⟨[(0, isD a), (1, refD m), (6, .own 11 a.length), (7, refD r), (8, .flat (.int .i64 (i : Int)))], [(11, some (.row 3 1 a.length (idL out)))]⟩
theorem div10_w (a : List Nat) (m : Nat) (ha : Dg 10 a) (la : a.length ≤ 90000) (lm : (dig 10 m).length ≤ 90000) (hm : 0 < m) : DFun Tryd.prog 24 [isD a, refD m] (.tup [refD (val 10 a / m), refD (val 10 a % m)]) := by
  refine DFun.enterA Tryd.func24 Tryd.ntmps24 ?_
  refine DW.walkTo 3 ?_
  rw [idL_rep]
  refine DW.sub (s' := ⟨[(0, isD a), (1, refD m), (6, .own 11 a.length), (7, .sl false 1 0 [])], [(11, some (.row 3 1 a.length (idL (List.replicate a.length 0))))]⟩) Sub.auto ?_
  have e0 : D.sl false 1 0 [] = refD 0 := by unfold refD; rw [dig_zero]; rfl
  rw [e0]
  refine DW.walk ?_
  refine DW.loopA (fun s : Nat × Nat × List Nat => dvO a m s.1 s.2.1 s.2.2) (fun s => s.1 ≤ a.length ∧ DivT m a s.1 s.2.2 s.2.1) (fun s => s.1) (a.length, 0, _) ?_ ⟨Nat.le_refl _, DivT.zero a hm⟩
  rintro ⟨i, r, out⟩ ⟨hi, hv⟩
  have hi : i ≤ a.length := hi
  have hv : DivT m a i out r := hv
  have hlen : out.length = a.length := hv.len
  by_cases h0 : i = 0
  · subst h0
    obtain ⟨h1, h2⟩ := hv.done
    have ht : DFun Tryd.prog 56 [.sl false 1 a.length (idL out)] (refD (val 10 a / m)) := by
      have := trim10_d out (by omega)
      rw [h1] at this
      rw [← hlen]; exact this
    rw [← h2]
    clear hv h1
    refine DW.walkTo 10 ?_
    refine DW.sub (s' := ⟨[(6, .sl false 1 a.length (idL out)), (7, refD r)], []⟩) Sub.auto ?_
    refine DW.walk ?_
    exact ⟨.inr rfl, ResOk.two [] rfl rfl rfl trivial (Vw.pers rfl) (Vw.pers rfl)⟩
  · obtain ⟨i, rfl⟩ : ∃ k, i = k + 1 := ⟨i - 1, by omega⟩
    obtain ⟨d, hd⟩ : ∃ d, a[i]? = some d := ⟨_, List.getElem?_eq_getElem (by omega)⟩
    have hdB := ha.at hd
    have h1 := part_id hd
    have hrm := hv.hr
    have lr : (dig 10 r).length ≤ 90000 := Nat.le_trans (dig_len hB10 (Nat.lt_trans hrm (dig_up hB10 m))) lm
    have ht := trim10_d (d :: dig 10 r) (by rw [List.length_cons]; omega)
    rw [cons10 d r hdB] at ht
    have ht : DFun Tryd.prog 56 [.sl false 1 (1 + (dig 10 r).length) ([.flat (.int .i64 (d : Nat))] ++ idL (dig 10 r))] (refD (10 * r + d)) := by
      have e : isD (d :: dig 10 r) = .sl false 1 (1 + (dig 10 r).length) ([.flat (.int .i64 (d : Nat))] ++ idL (dig 10 r)) := by
        show D.sl false 1 ((dig 10 r).length + 1) _ = _
        rw [Nat.add_comm]; rfl
      rw [← e]; exact ht
    have ho := hv.lo i (Nat.lt_succ_self i)
    have hst := fun (j r2 : Nat) => hv.step (j := j) (r2 := r2) hd
    have hput : idL out = idL (putN out i 0) := by
      congr 1
      rw [put_set (by omega)]
      exact (set_same ho).symm
    have ei : ((i + 1 : Nat) : Int) - 1 = (i : Int) := by omega
    refine DW.sub (s' := dvI a m i r (putN out i 0)) Sub.auto ?_
    have hpl : ∀ j, (putN out i j).length = a.length := fun j => by rw [put_set (by omega), List.length_set, hlen]
    have hx0 : m * 10 ≥ 10 * r + d + 1 := by omega
    have lr10 : ∀ y, y ≤ 10 * r + d → (dig 10 y).length ≤ 90001 := fun y hy => by
      have := dlen_up (x := y) (m := m) (by omega)
      omega
    have e2 : i * 1 = i := Nat.mul_one i
    have hX : 10 * r + d < m * 10 := by omega
    clear hv hput hx0 h1
    have h1 := part_id hd
    generalize 10 * r + d = X at *
    refine DW.walk ?_
    refine DW.loopA (fun s : Nat × Nat => dvI a m i s.2 (putN out i s.1)) (fun s => s.2 + s.1 * m = X) (fun s => s.2) (0, X) ?_ (by show X + 0 * m = X; omega)
    rintro ⟨j, y⟩ hy
    have hy : y + j * m = X := hy
    have ly := lr10 y (by omega)
    have cc := cmp10_d y m (by omega) (by omega)
    have hj9 : j < 10 := Nat.lt_of_mul_lt_mul_right (a := m) (by rw [Nat.mul_comm 10]; omega)
    by_cases hge : m ≤ y
    · have hz : cmpZ y m = 0 ∨ cmpZ y m = 1 := by
        unfold cmpZ
        rw [if_neg (by omega)]
        split <;> decide
      have sb := sub10_d y m (by omega) (by omega) hge
      have hpj : (putN out i j)[i]? = some j := by
        rw [put_set (by omega), List.getElem?_set_self (by omega)]
      have h2 := part_id hpj
      have hll := hpl j
      have hlc : (idL (putN out i j)).length = a.length := by rw [idL_len, hll]
      have hpp := put_put (l := out) (i := i) (by omega) j (j + 1)
      have hsp : ∀ off : Nat, SplD (idL (putN out i j)) (off * 1) [.flat (.int .i64 ((j : Int) + 1))] (idL (putN (putN out i j) off (j + 1))) := fun off => by
        rw [show ((j : Int) + 1) = ((j + 1 : Nat) : Int) by omega]
        infer_instance
      have hm2 : (y - m) + (j + 1) * m = X := by rw [Nat.add_mul]; omega
      clear ht hst lr10 hpl hpj h1
      generalize cmpZ y m = z at *
      refine DW.walkTo 8 ?_
      refine DW.sub (s' := dvI a m i y (putN out i j)) Sub.auto ?_
      clear cc hz
      refine DW.walk ?_
      rw [hpp]
      exact ⟨(j + 1, y - m), hm2, by show y - m < y; omega, Sub.auto⟩
    · have hz : cmpZ y m = -1 := by unfold cmpZ; rw [if_pos (by omega)]
      rw [hz] at cc
      have hs2 := hst j y hy (by omega) hj9
      clear ht hst lr10 h1
      refine DW.walk ?_
      exact ⟨(i, y, putN out i j), ⟨by show i ≤ a.length; omega, hs2⟩, Nat.lt_succ_self i, Sub.auto⟩
theorem div10_d (n m : Nat) (ln : (dig 10 n).length ≤ 90000) (lm : (dig 10 m).length ≤ 90000) (hm : 0 < m) : DFun Tryd.prog 24 [refD n, refD m] (.tup [refD (n / m), refD (n % m)]) := by
  have := div10_w (dig 10 n) m (dig_dg hB10 n) ln lm hm
  rwa [val_dig hB10] at this
end Go.Proofs.YtebbekdebanabaaDoor
