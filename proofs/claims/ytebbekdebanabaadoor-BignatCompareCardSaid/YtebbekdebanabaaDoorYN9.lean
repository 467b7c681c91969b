/- Contracts over data: the reference: at, Of. No condition. -/
import Derived.Test.YtebbekdebanabaaDoorYN4

set_option linter.unusedSimpArgs false
set_option linter.unusedVariables false
set_option maxHeartbeats 4000000
set_option maxRecDepth 8000
namespace Go.Proofs.YtebbekdebanabaaDoor
open Go Go.RowKit Go.PP Go.Dm Go.Bn
theorem at10_d (l : List Nat) (i : Nat) (h : l.length ≤ 1000000) (hi : i ≤ 1000000) : DFun Tryd.prog 66 [isD l, .flat (.int .i64 (i : Nat))] (.flat (.int .i64 (atD l i : Nat))) := by
  refine DFun.enterA Tryd.func66 Tryd.ntmps66 ?_
  rcases Nat.lt_or_ge i l.length with hlt | hge
  · obtain ⟨d, hd⟩ : ∃ d, l[i]? = some d := ⟨_, List.getElem?_eq_getElem hlt⟩
    rw [atD_in hd]
    have h1 := part_id hd
    refine DW.walk ?_
    exact ⟨.inr rfl, ResOk.one [] rfl rfl trivial (Vw.pers rfl)⟩
  · rw [atD_out hge]
    refine DW.walk ?_
    exact ⟨.inr rfl, ResOk.one [] rfl rfl trivial (Vw.pers rfl)⟩
theorem idL_snoc (l : List Nat) (d : Nat) : idL l ++ [.flat (.int .i64 (d : Nat))] = idL (l ++ [d]) := by
  show _ = List.map i64D (_ ++ _)
  rw [List.map_append]; rfl
theorem own_ref {fn : Func} {s : DS} {x : Tmp} {id n : Nat} {l : List Nat} (hr : fn.results = #[.tmp x]) (hx : lkF s.f x = .own id n) (hi : lkE s.σ id = some (.row 3 1 n (idL l))) (hl : l.length = n) : ResOk Tryd.prog fn s (isD l) :=
  ResOk.one [(id, some (.row 3 1 n (idL l)))] hr hx ⟨hi, trivial⟩ (Vw.le (Vw.own (.head _) (VwL.pers (idL_pers _))) (Le.of_eq (by rw [← hl])))
theorem of10_d (n : Nat) (h : n < 18446744073709551616) : DFun Tryd.prog 38 [.flat (.int .u64 (n : Nat))] (refD n) := by
  refine DFun.enterA Tryd.func38 Tryd.ntmps38 ?_
  refine DW.walk ?_
  refine DW.sub (s' := ⟨[(0, .flat (.int .u64 (n : Nat))), (3, .own 26843545600009 0)], [(26843545600009, some (.row 3 1 0 []))]⟩) (fun w9 m9 b9 a9 v9 h9 => (Sub.auto (f' := [(0, .flat (.int .u64 (n : Nat))), (3, .own 26843545600009 0)]) (σ' := [(26843545600009, some (.row 3 1 0 []))])) w9 m9 b9 a9 v9 (Sub.adopt 3 26843545600009 3 1 rfl rfl rfl w9 m9 b9 a9 v9 h9)) ?_
  refine DW.loopA (fun s : Nat × List Nat => ⟨[(0, .flat (.int .u64 (s.1 : Nat))), (3, .own 26843545600009 s.2.length)], [(26843545600009, some (.row 3 1 s.2.length (idL s.2)))]⟩) (fun s => s.2 ++ dig 10 s.1 = dig 10 n ∧ s.1 < 18446744073709551616 ∧ s.2.length ≤ 100) (fun s => s.1) (n, []) ?_ ⟨List.nil_append _, h, Nat.zero_le _⟩
  rintro ⟨m, out⟩ ⟨hm, hl, ho⟩
  have hl : m < 18446744073709551616 := hl
  have hm : out ++ dig 10 m = dig 10 n := hm
  have ho : out.length ≤ 100 := ho
  by_cases h0 : m = 0
  · subst h0
    rw [dig_zero, List.append_nil] at hm
    subst hm
    refine DW.walk ?_
    exact ⟨.inr rfl, own_ref rfl rfl rfl rfl⟩
  · rw [dig_pos hB10 h0] at hm
    have hm2 : (out ++ [m % 10]) ++ dig 10 (m / 10) = dig 10 n := by rw [← hm, List.append_assoc]; rfl
    have hn20 : (dig 10 n).length ≤ 20 := dig_len hB10 (Nat.lt_trans h (by decide))
    have hol : (out ++ [m % 10]).length ≤ 100 := by
      have := congrArg List.length hm2
      rw [List.length_append] at this
      omega
    have hlt : m / 10 < m := Nat.div_lt_self (by omega) (by decide)
    have hsn := idL_snoc out (m % 10)
    have e1 : (out ++ [m % 10]).length = out.length + 1 := by rw [List.length_append, List.length_singleton]
    have w1 : IntKind.i64.wrap ((m % 10 : Nat) : Int) = ((m % 10 : Nat) : Int) := w64 (by omega) (by omega)
    clear hm
    refine DW.walk ?_
    rw [hsn]
    refine ⟨(m / 10, out ++ [m % 10]), ⟨hm2, by show m / 10 < _; omega, hol⟩, hlt, ?_⟩
    rw [← e1]
    exact Sub.auto
end Go.Proofs.YtebbekdebanabaaDoor

set_option linter.unusedSimpArgs false
set_option linter.unusedVariables false
set_option maxHeartbeats 4000000
set_option maxRecDepth 8000
namespace Go.Proofs.YtebbekdebanabaaDoor
open Go Go.RowKit Go.PP Go.Dm Go.Bn
theorem cmp10_len {a b : List Nat} (la : a.length ≤ 1000000) (lb : b.length ≤ 1000000) (v : Int) (h : a.length < b.length ∧ v = -1 ∨ b.length < a.length ∧ v = 1) : DFun Tryd.prog 31 [isD a, isD b] (.flat (.int .i64 v)) := by
  refine DFun.enterA Tryd.func31 Tryd.ntmps31 ?_
  rcases h with ⟨h, rfl⟩ | ⟨h, rfl⟩
  · refine DW.walk ?_
    exact ⟨.inr rfl, ResOk.one [] rfl rfl trivial (Vw.pers rfl)⟩
  · refine DW.walk ?_
    exact ⟨.inr rfl, ResOk.one [] rfl rfl trivial (Vw.pers rfl)⟩
theorem cmp10_eq (a b : List Nat) (la : a.length ≤ 1000000) (hl : a.length = b.length) (z : Int) (hz : a = b ∧ z = 0 ∨ ∃ i x y, a[i]? = some x ∧ b[i]? = some y ∧ a.drop (i + 1) = b.drop (i + 1) ∧ (x < y ∧ z = -1 ∨ y < x ∧ z = 1)) : DFun Tryd.prog 31 [isD a, isD b] (.flat (.int .i64 z)) := by
  have hb0 : isD b = .sl false 1 a.length (idL b) := by rw [hl]
  rw [hb0]
  refine DFun.enterA Tryd.func31 Tryd.ntmps31 ?_
  refine DW.walk ?_
  refine DW.loopA (fun j : Nat => ⟨[(0, isD a), (1, .sl false 1 a.length (idL b)), (5, .flat (.int .i64 ((j : Int) - 1)))], []⟩) (fun j => j ≤ a.length ∧ a.drop j = b.drop j) (fun j => j) a.length ?_ ⟨Nat.le_refl _, by rw [List.drop_of_length_le (Nat.le_refl _), List.drop_of_length_le (by omega)]⟩
  rintro j ⟨hj, hd⟩
  by_cases h0 : j = 0
  · subst h0
    have hab : a = b := hd
    have hz0 : z = 0 := by
      rcases hz with ⟨_, h⟩ | ⟨i, x, y, h1, h2, _, h3⟩
      · exact h
      · rw [hab, h2] at h1
        have h1 := Option.some.inj h1
        omega
    subst hz0
    clear hz
    refine DW.walk ?_
    exact ⟨.inr rfl, ResOk.one [] rfl rfl trivial (Vw.pers rfl)⟩
  · obtain ⟨x, hx⟩ : ∃ x, a[j - 1]? = some x := ⟨_, List.getElem?_eq_getElem (by omega)⟩
    obtain ⟨y, hy⟩ : ∃ y, b[j - 1]? = some y := ⟨_, List.getElem?_eq_getElem (by omega)⟩
    have h1 := part_id hx
    have h2 := part_id hy
    have hz2 : x < y → z = -1 := fun hxy => by
      rcases hz with ⟨h, _⟩ | ⟨i, x', y', k1, k2, k3, k4⟩
      · rw [h, hy] at hx
        have := Option.some.inj hx
        omega
      · have hij : i = j - 1 := by
          rcases Nat.lt_trichotomy i (j - 1) with h | h | h
          · exfalso
            have e1 : (a.drop (i + 1))[j - 1 - (i + 1)]? = some x := by rw [List.getElem?_drop, show i + 1 + (j - 1 - (i + 1)) = j - 1 by omega]; exact hx
            have e2 : (b.drop (i + 1))[j - 1 - (i + 1)]? = some y := by rw [List.getElem?_drop, show i + 1 + (j - 1 - (i + 1)) = j - 1 by omega]; exact hy
            rw [k3, e2] at e1
            have := Option.some.inj e1
            omega
          · exact h
          · exfalso
            have e1 : (a.drop j)[i - j]? = some x' := by rw [List.getElem?_drop, show j + (i - j) = i by omega]; exact k1
            have e2 : (b.drop j)[i - j]? = some y' := by rw [List.getElem?_drop, show j + (i - j) = i by omega]; exact k2
            rw [hd, e2] at e1
            have := Option.some.inj e1
            omega
        subst hij
        rw [hx] at k1
        rw [hy] at k2
        have e1 := Option.some.inj k1
        have e2 := Option.some.inj k2
        omega
    have hz3 : y < x → z = 1 := fun hxy => by
      rcases hz with ⟨h, _⟩ | ⟨i, x', y', k1, k2, k3, k4⟩
      · rw [h, hy] at hx
        have := Option.some.inj hx
        omega
      · have hij : i = j - 1 := by
          rcases Nat.lt_trichotomy i (j - 1) with h | h | h
          · exfalso
            have e1 : (a.drop (i + 1))[j - 1 - (i + 1)]? = some x := by rw [List.getElem?_drop, show i + 1 + (j - 1 - (i + 1)) = j - 1 by omega]; exact hx
            have e2 : (b.drop (i + 1))[j - 1 - (i + 1)]? = some y := by rw [List.getElem?_drop, show i + 1 + (j - 1 - (i + 1)) = j - 1 by omega]; exact hy
            rw [k3, e2] at e1
            have := Option.some.inj e1
            omega
          · exact h
          · exfalso
            have e1 : (a.drop j)[i - j]? = some x' := by rw [List.getElem?_drop, show j + (i - j) = i by omega]; exact k1
            have e2 : (b.drop j)[i - j]? = some y' := by rw [List.getElem?_drop, show j + (i - j) = i by omega]; exact k2
            rw [hd, e2] at e1
            have := Option.some.inj e1
            omega
        subst hij
        rw [hx] at k1
        rw [hy] at k2
        have e1 := Option.some.inj k1
        have e2 := Option.some.inj k2
        omega
    have hst : x = y → a.drop (j - 1) = b.drop (j - 1) := fun e => by
      have e1 := List.drop_eq_getElem_cons (l := a) (i := j - 1) (by omega)
      have e2 := List.drop_eq_getElem_cons (l := b) (i := j - 1) (by omega)
      rw [List.getElem?_eq_getElem (by omega)] at hx hy
      have hx := Option.some.inj hx
      have hy := Option.some.inj hy
      rw [e1, e2, hx, hy, e, show j - 1 + 1 = j by omega, hd]
    clear hz hd
    rcases Nat.lt_trichotomy x y with h | h | h
    · have hz := hz2 h
      subst hz
      clear hz2 hz3 hst
      refine DW.walk ?_
      exact ⟨.inr rfl, ResOk.one [] rfl rfl trivial (Vw.pers rfl)⟩
    · have hst := hst h
      clear hz2 hz3
      refine DW.walk ?_
      exact ⟨j - 1, ⟨by omega, hst⟩, by omega, Sub.auto⟩
    · have hz := hz3 h
      subst hz
      clear hz2 hz3 hst
      refine DW.walk ?_
      exact ⟨.inr rfl, ResOk.one [] rfl rfl trivial (Vw.pers rfl)⟩
theorem cmp10_d (m n : Nat) (la : (dig 10 m).length ≤ 1000000) (lb : (dig 10 n).length ≤ 1000000) : DFun Tryd.prog 31 [refD m, refD n] (.flat (.int .i64 (cmpZ m n))) := by
  rcases Nat.lt_trichotomy (dig 10 m).length (dig 10 n).length with hl | hl | hl
  · have := dig_lt hB10 hl
    exact cmp10_len la lb _ (.inl ⟨hl, by unfold cmpZ; rw [if_pos this]⟩)
  · refine cmp10_eq _ _ la hl _ ?_
    by_cases he : dig 10 m = dig 10 n
    · have hmn : m = n := by rw [← val_dig hB10 m, ← val_dig hB10 n, he]
      refine .inl ⟨he, ?_⟩
      subst hmn
      unfold cmpZ
      rw [if_neg (Nat.lt_irrefl _), if_neg (Nat.lt_irrefl _)]
    · obtain ⟨i, x, y, h1, h2, h3, h4⟩ := top_diff hl he
      refine .inr ⟨i, x, y, h1, h2, h4, ?_⟩
      rcases Nat.lt_or_ge x y with h | h
      · have := val_top (dig_dg hB10 m) hl h1 h2 h h4
        rw [val_dig hB10, val_dig hB10] at this
        exact .inl ⟨h, by unfold cmpZ; rw [if_pos this]⟩
      · have hyx : y < x := by omega
        have := val_top (dig_dg hB10 n) hl.symm h2 h1 hyx h4.symm
        rw [val_dig hB10, val_dig hB10] at this
        exact .inr ⟨hyx, by unfold cmpZ; rw [if_neg (by omega), if_pos this]⟩
  · have := dig_lt hB10 hl
    exact cmp10_len la lb _ (.inr ⟨hl, by unfold cmpZ; rw [if_neg (by omega), if_pos this]⟩)
end Go.Proofs.YtebbekdebanabaaDoor

set_option linter.unusedSimpArgs false
set_option linter.unusedVariables false
set_option maxHeartbeats 4000000
set_option maxRecDepth 8000
namespace Go.Proofs.YtebbekdebanabaaDoor
open Go Go.RowKit Go.PP Go.Dm Go.Bn
theorem add10_w (a b : List Nat) (ha : Dg 10 a) (hb : Dg 10 b) (la : a.length ≤ 100000) (lb : b.length ≤ 100000) : DFun Tryd.prog 40 [isD a, isD b] (refD (val 10 a + val 10 b)) := by
  refine DFun.enterA Tryd.func40 Tryd.ntmps40 ?_
  refine DW.walkTo 3 ?_
  refine DW.sub (s' := ⟨[(0, isD a), (1, isD b), (6, .flat (.int .i64 0)), (5, .own 26843545600009 0)], [(26843545600009, some (.row 3 1 0 []))]⟩) (fun w9 m9 b9 a9 v9 h9 => (Sub.auto (f' := [(0, isD a), (1, isD b), (6, .flat (.int .i64 0)), (5, .own 26843545600009 0)]) (σ' := [(26843545600009, some (.row 3 1 0 []))])) w9 m9 b9 a9 v9 (Sub.adopt 5 26843545600009 3 1 rfl rfl rfl w9 m9 b9 a9 v9 h9)) ?_
  refine DW.walk ?_
  refine DW.loopA (fun s : Nat × Nat × List Nat => ⟨[(0, isD a), (1, isD b), (5, .own 26843545600009 s.2.2.length), (6, .flat (.int .i64 (s.2.1 : Nat))), (7, .flat (.int .i64 (s.1 : Nat)))], [(26843545600009, some (.row 3 1 s.2.2.length (idL s.2.2)))]⟩) (fun s => AddI 10 a b s.1 s.2.2 s.2.1 ∧ s.1 ≤ a.length + b.length + 1 ∧ (a.length + b.length < s.1 → s.2.1 = 0)) (fun s => a.length + b.length + 1 - s.1) (0, 0, []) ?_ ⟨AddI.zero a b, Nat.zero_le _, fun _ => rfl⟩
  rintro ⟨i, c, out⟩ ⟨hv, hi, hz⟩
  have hv : AddI 10 a b i out c := hv
  have hi : i ≤ a.length + b.length + 1 := hi
  have hz : a.length + b.length < i → c = 0 := hz
  have hol : out.length = i := hv.len
  by_cases h1 : i < a.length ∨ i < b.length ∨ 0 < c
  · have c1 := at10_d a i (by omega) (by omega)
    have c2 := at10_d b i (by omega) (by omega)
    have hx := atD_lt ha (by decide) i
    have hy := atD_lt hb (by decide) i
    have hc := hv.c1
    have hs := hv.step hB10 ha hb
    have hnz : a.length + b.length < i + 1 → (atD a i + atD b i + c) / 10 = 0 := fun h => by
      rw [atD_out (l := a) (i := i) (by omega), atD_out (l := b) (i := i) (by omega)]
      omega
    generalize atD a i = x at *
    generalize atD b i = y at *
    clear hv
    have hsn := idL_snoc out ((x + y + c) % 10)
    have e1 : (out ++ [(x + y + c) % 10]).length = out.length + 1 := by rw [List.length_append, List.length_singleton]
    have em : ((x : Int) + (y : Int) + (c : Int)).tmod 10 = (((x + y + c) % 10 : Nat) : Int) := by
      rw [rem64 (by omega)]; omega
    have ed : IntKind.i64.wrap (((x : Int) + (y : Int) + (c : Int)).tdiv 10) = (((x + y + c) / 10 : Nat) : Int) := by
      rw [quo64 (by omega) (by omega) (by omega)]; omega
    by_cases h2 : i < a.length
    · refine DW.walk ?_
      rw [hsn, ← e1]
      exact ⟨(i + 1, _, _), ⟨hs, by show i + 1 ≤ _; omega, hnz⟩, by show a.length + b.length + 1 - (i + 1) < a.length + b.length + 1 - i; omega, Sub.auto⟩
    · by_cases h3 : i < b.length
      · refine DW.walk ?_
        rw [hsn, ← e1]
        exact ⟨(i + 1, _, _), ⟨hs, by show i + 1 ≤ _; omega, hnz⟩, by show a.length + b.length + 1 - (i + 1) < a.length + b.length + 1 - i; omega, Sub.auto⟩
      · have h4 : 0 < c := by omega
        refine DW.walk ?_
        rw [hsn, ← e1]
        exact ⟨(i + 1, _, _), ⟨hs, by show i + 1 ≤ _; omega, hnz⟩, by show a.length + b.length + 1 - (i + 1) < a.length + b.length + 1 - i; omega, Sub.auto⟩
  · have hc0 : c = 0 := by omega
    subst hc0
    have hd := hv.done (by omega) (by omega)
    have ht := trim10_d out (by omega)
    rw [trimR_dig hB10 hv.dg, hd] at ht
    clear hv
    refine DW.walkTo 9 ?_
    refine DW.sub (s' := ⟨[(5, isD out)], []⟩) Sub.auto ?_
    refine DW.walk ?_
    exact ⟨.inr rfl, ResOk.one [] rfl rfl trivial (Vw.pers rfl)⟩
end Go.Proofs.YtebbekdebanabaaDoor

set_option linter.unusedSimpArgs false
set_option linter.unusedVariables false
set_option maxHeartbeats 4000000
set_option maxRecDepth 8000
namespace Go.Proofs.YtebbekdebanabaaDoor
open Go Go.RowKit Go.PP Go.Dm Go.Bn
theorem add10_d (m n : Nat) (la : (dig 10 m).length ≤ 100000) (lb : (dig 10 n).length ≤ 100000) : DFun Tryd.prog 40 [refD m, refD n] (refD (m + n)) := by
  have := add10_w (dig 10 m) (dig 10 n) (dig_dg hB10 m) (dig_dg hB10 n) la lb
  rwa [val_dig hB10, val_dig hB10] at this
theorem sub10_w (a b : List Nat) (ha : Dg 10 a) (hb : Dg 10 b) (la : a.length ≤ 100000) (lb : b.length ≤ 100000) (hl : b.length ≤ a.length) (hle : val 10 b ≤ val 10 a) : DFun Tryd.prog 39 [isD a, isD b] (refD (val 10 a - val 10 b)) := by
  refine DFun.enterA Tryd.func39 Tryd.ntmps39 ?_
  refine DW.walkTo 3 ?_
  refine DW.sub (s' := ⟨[(0, isD a), (1, isD b), (6, .flat (.int .i64 0)), (5, .own 26843545600009 0)], [(26843545600009, some (.row 3 1 0 []))]⟩) (fun w9 m9 b9 a9 v9 h9 => (Sub.auto (f' := [(0, isD a), (1, isD b), (6, .flat (.int .i64 0)), (5, .own 26843545600009 0)]) (σ' := [(26843545600009, some (.row 3 1 0 []))])) w9 m9 b9 a9 v9 (Sub.adopt 5 26843545600009 3 1 rfl rfl rfl w9 m9 b9 a9 v9 h9)) ?_
  refine DW.walk ?_
  refine DW.loopA (fun s : Nat × Nat × List Nat => ⟨[(0, isD a), (1, isD b), (5, .own 26843545600009 s.2.2.length), (6, .flat (.int .i64 (s.2.1 : Nat))), (7, .flat (.int .i64 (s.1 : Nat)))], [(26843545600009, some (.row 3 1 s.2.2.length (idL s.2.2)))]⟩) (fun s => SubI 10 a b s.1 s.2.2 s.2.1 ∧ s.1 ≤ a.length) (fun s => a.length - s.1) (0, 0, []) ?_ ⟨SubI.zero a b, Nat.zero_le _⟩
  rintro ⟨i, c, out⟩ ⟨hv, hi⟩
  have hv : SubI 10 a b i out c := hv
  have hi : i ≤ a.length := hi
  have hol : out.length = i := hv.len
  by_cases h1 : i < a.length
  · have c1 := at10_d a i (by omega) (by omega)
    have c2 := at10_d b i (by omega) (by omega)
    have hx := atD_lt ha (by decide) i
    have hy := atD_lt hb (by decide) i
    have hc := hv.c1
    have hs := fun (d e : Nat) => hv.step hB10 (d := d) (e := e)
    generalize atD a i = x at *
    generalize atD b i = y at *
    clear hv
    by_cases hlt : x < y + c
    · have hs := hs (x + 10 - y - c) 1 (by omega) (by omega) (by omega)
      have hsn := idL_snoc out (x + 10 - y - c)
      have e1 : (out ++ [x + 10 - y - c]).length = out.length + 1 := by rw [List.length_append, List.length_singleton]
      have ed : ((x + 10 - y - c : Nat) : Int) = (x : Int) - (y : Int) - (c : Int) + 10 := by omega
      rw [ed] at hsn
      refine DW.walk ?_
      rw [hsn, ← e1]
      exact ⟨(i + 1, _, _), ⟨hs, by show i + 1 ≤ _; omega⟩, by show a.length - (i + 1) < a.length - i; omega, Sub.auto⟩
    · have hs := hs (x - y - c) 0 (by omega) (by omega) (by omega)
      have hsn := idL_snoc out (x - y - c)
      have e1 : (out ++ [x - y - c]).length = out.length + 1 := by rw [List.length_append, List.length_singleton]
      have ed : ((x - y - c : Nat) : Int) = (x : Int) - (y : Int) - (c : Int) := by omega
      rw [ed] at hsn
      refine DW.walk ?_
      rw [hsn, ← e1]
      exact ⟨(i + 1, _, _), ⟨hs, by show i + 1 ≤ _; omega⟩, by show a.length - (i + 1) < a.length - i; omega, Sub.auto⟩
  · obtain rfl : i = a.length := by omega
    have hd := hv.done rfl hl hle
    have ht := trim10_d out (by omega)
    rw [trimR_dig hB10 hv.dg, hd.1] at ht
    clear hv
    refine DW.walkTo 12 ?_
    refine DW.sub (s' := ⟨[(5, isD out)], []⟩) Sub.auto ?_
    refine DW.walk ?_
    exact ⟨.inr rfl, ResOk.one [] rfl rfl trivial (Vw.pers rfl)⟩
theorem sub10_d (m n : Nat) (la : (dig 10 m).length ≤ 100000) (lb : (dig 10 n).length ≤ 100000) (h : n ≤ m) : DFun Tryd.prog 39 [refD m, refD n] (refD (m - n)) := by
  have hlen : (dig 10 n).length ≤ (dig 10 m).length := by
    refine Classical.byContradiction fun hl => ?_
    have := dig_lt hB10 (show (dig 10 m).length < (dig 10 n).length by omega)
    omega
  have := sub10_w (dig 10 m) (dig 10 n) (dig_dg hB10 m) (dig_dg hB10 n) la lb hlen (by rw [val_dig hB10, val_dig hB10]; exact h)
  rwa [val_dig hB10, val_dig hB10] at this
end Go.Proofs.YtebbekdebanabaaDoor

set_option linter.unusedSimpArgs false
set_option linter.unusedVariables false
set_option maxHeartbeats 4000000
set_option maxRecDepth 8000
namespace Go.Proofs.YtebbekdebanabaaDoor
open Go Go.RowKit Go.PP Go.Dm Go.Bn
/-- What is done of a product. -/
structure MulT (a b : List Nat) (i : Nat) (out : List Nat) : Prop where
  len : out.length = a.length + b.length
  dg : Dg 10 out
  v : val 10 out = val 10 (a.take i) * val 10 b
  hi : ∀ j, i + b.length ≤ j → j < a.length + b.length → out[j]? = some 0
theorem MulT.zero (a b : List Nat) : MulT a b 0 (List.replicate (a.length + b.length) 0) := ⟨List.length_replicate, fun d hd => (by rw [(List.mem_replicate.1 hd).2]; decide), by rw [val_zeros, List.take_zero]; show 0 = 0 * _; rw [Nat.zero_mul], fun j _ hj => by rw [List.getElem?_replicate, if_pos hj]⟩
theorem MulT.step {a b out0 out : List Nat} {i x k : Nat} (hb : Dg 10 b) (h : MulT a b i out0) (hx : a[i]? = some x) (hk : b.length ≤ k) (hk2 : k ≤ b.length + 1) (hm : MulI 10 out0 b i x k out 0) : MulT a b (i + 1) out := by
  have hi := (List.getElem?_eq_some_iff.1 hx).1
  refine ⟨by rw [hm.len, h.len], hm.dg, ?_, fun j h1 h2 => ?_⟩
  · have hv := hm.v
    rw [Nat.mul_zero, Nat.add_zero, List.take_of_length_le hk, h.v] at hv
    rw [hv, val_take hx, Nat.add_mul, Nat.mul_assoc]
  · rw [hm.hi j (by omega)]
    exact h.hi j (by omega) h2
theorem MulT.done {a b out : List Nat} (h : MulT a b a.length out) : trimR out = dig 10 (val 10 a * val 10 b) := by
  rw [trimR_dig hB10 h.dg, h.v, List.take_length]
abbrev mtO (a b : List Nat) (i : Nat) (out : List Nat) : DS := ⟨[(0, isD a), (1, isD b), (5, .own 15 (a.length + b.length)), (6, .flat (.int .i64 (i : Nat)))], [(15, some (.row 3 1 (a.length + b.length) (idL out)))]⟩
abbrev mtS (a b : List Nat) (i k c : Nat) (out : List Nat) : DS := ⟨[(0, isD a), (1, isD b), (5, .own 15 (a.length + b.length)), (6, .flat (.int .i64 (i : Nat))), (7, .flat (.int .i64 (c : Nat))), (8, .flat (.int .i64 (k : Nat)))], [(15, some (.row 3 1 (a.length + b.length) (idL out)))]⟩
theorem mt_step {out0 b out : List Nat} {i x k c o y : Nat} (hx : x < 10) (hb : Dg 10 b) (h : MulI 10 out0 b i x k out c) (ho : out[i + k]? = some o) (hy : atD b k = y) : MulI 10 out0 b i x (k + 1) (putN out (i + k) ((o + x * y + c) % 10)) ((o + x * y + c) / 10) := by
  rw [put_set (List.getElem?_eq_some_iff.1 ho).1, Nat.add_comm o]
  exact h.step hB10 hx hb ho hy
theorem mul10_w (a b : List Nat) (ha : Dg 10 a) (hb : Dg 10 b) (la : a.length ≤ 100000) (lb : b.length ≤ 100000) : DFun Tryd.prog 41 [isD a, isD b] (refD (val 10 a * val 10 b)) := by
  refine DFun.enterA Tryd.func41 Tryd.ntmps41 ?_
  refine DW.walkTo 2 ?_
  rw [idL_rep]
  refine DW.sub (s' := ⟨[(0, isD a), (1, isD b), (5, .own 15 (a.length + b.length))], [(15, some (.row 3 1 (a.length + b.length) (idL (List.replicate (a.length + b.length) 0))))]⟩) Sub.auto ?_
  refine DW.walk ?_
  refine DW.loopA (fun s : Nat × List Nat => mtO a b s.1 s.2) (fun s => s.1 ≤ a.length ∧ MulT a b s.1 s.2) (fun s => a.length - s.1) (0, _) ?_ ⟨Nat.zero_le _, MulT.zero a b⟩
  rintro ⟨i, out⟩ ⟨hi, hm⟩
  have hi : i ≤ a.length := hi
  have hm : MulT a b i out := hm
  rcases Nat.lt_or_ge i a.length with hlt | hge
  · obtain ⟨x, hx⟩ : ∃ x, a[i]? = some x := ⟨_, List.getElem?_eq_getElem hlt⟩
    have hxB := ha.at hx
    have h1 := part_id hx
    have hlen := hm.len
    have hst := fun (out' : List Nat) (k : Nat) => hm.step (out := out') (k := k) hb hx
    have hm0 := MulI.zero (out0 := out) (b := b) (i := i) (x := x) hB10 hm.dg
    have h0 := hm.hi
    clear hm
    refine DW.walk ?_
    refine DW.loopA (fun s : Nat × Nat × List Nat => mtS a b i s.1 s.2.1 s.2.2) (fun s => MulI 10 out b i x s.1 s.2.2 s.2.1 ∧ s.1 ≤ b.length + 1 ∧ (b.length < s.1 → s.2.1 = 0)) (fun s => b.length + 1 - s.1) (0, 0, out) ?_ ⟨hm0, Nat.zero_le _, fun _ => rfl⟩
    rintro ⟨k, c, out2⟩ ⟨hv, hk, hz⟩
    have hv : MulI 10 out b i x k out2 c := hv
    have hk : k ≤ b.length + 1 := hk
    have hz : b.length < k → c = 0 := hz
    have hlo : out2.length = a.length + b.length := hv.len.trans hlen
    by_cases hgo : k < b.length ∨ 0 < c
    · have hk3 : k ≤ b.length := by omega
      obtain ⟨o, ho⟩ : ∃ o, out2[i + k]? = some o := ⟨_, List.getElem?_eq_getElem (by omega)⟩
      have c2 := at10_d b k (by omega) (by omega)
      have hy := atD_lt hb (by decide) k
      have hs := mt_step hxB hb hv ho rfl
      have hoB := hv.dg.at ho
      have hcB := hv.c1
      have hnz : b.length < k + 1 → (o + x * atD b k + c) / 10 = 0 := fun h => by
        have hkb : k = b.length := by omega
        have e1 : atD b k = 0 := atD_out (by omega)
        have e2 : o = 0 := by
          have e3 := hv.hi (i + k) (Nat.le_refl _)
          rw [h0 (i + k) (by omega) (by omega), ho] at e3
          exact Option.some.inj e3
        rw [e1, e2, Nat.mul_zero]
        omega
      generalize atD b k = y at *
      have hp := part_id ho
      have hxy : x * y ≤ 9 * 9 := Nat.mul_le_mul (by omega) (by omega)
      have exy : ((x * y : Nat) : Int) = (x : Int) * (y : Int) := Int.natCast_mul ..
      have w1 : IntKind.i64.wrap ((x : Int) * (y : Int)) = (x : Int) * (y : Int) := w64 (by omega) (by omega)
      have em : ((o : Int) + (x : Int) * (y : Int) + (c : Int)).tmod 10 = (((o + x * y + c) % 10 : Nat) : Int) := by
        rw [rem64 (by omega)]; omega
      have ed : IntKind.i64.wrap (((o : Int) + (x : Int) * (y : Int) + (c : Int)).tdiv 10) = (((o + x * y + c) / 10 : Nat) : Int) := by
        rw [quo64 (by omega) (by omega) (by omega)]; omega
      clear hv hst hm0 h0
      by_cases h2 : k < b.length
      · refine DW.walk ?_
        exact ⟨(k + 1, _, _), ⟨hs, by show k + 1 ≤ _; omega, hnz⟩, by show b.length + 1 - (k + 1) < b.length + 1 - k; omega, Sub.auto⟩
      · have h4 : 0 < c := by omega
        refine DW.walk ?_
        exact ⟨(k + 1, _, _), ⟨hs, by show k + 1 ≤ _; omega, hnz⟩, by show b.length + 1 - (k + 1) < b.length + 1 - k; omega, Sub.auto⟩
    · have hc0 : c = 0 := by omega
      subst hc0
      have hst := hst out2 k (by omega) (by omega) hv
      clear hv hm0 h0
      refine DW.walk ?_
      exact ⟨(i + 1, out2), ⟨by show i + 1 ≤ _; omega, hst⟩, by show a.length - (i + 1) < a.length - i; omega, Sub.auto⟩
  · obtain rfl : i = a.length := by omega
    have hlen : out.length = a.length + b.length := hm.len
    have ht : DFun Tryd.prog 56 [.sl false 1 (a.length + b.length) (idL out)] (refD (val 10 a * val 10 b)) := by
      have := trim10_d out (by omega)
      rw [hm.done] at this
      rw [← hlen]; exact this
    clear hm
    refine DW.walkTo 12 ?_
    refine DW.sub (s' := ⟨[(5, .sl false 1 (a.length + b.length) (idL out))], []⟩) Sub.auto ?_
    refine DW.walk ?_
    exact ⟨.inr rfl, ResOk.one [] rfl rfl trivial (Vw.pers rfl)⟩
theorem mul10_d (m n : Nat) (la : (dig 10 m).length ≤ 100000) (lb : (dig 10 n).length ≤ 100000) : DFun Tryd.prog 41 [refD m, refD n] (refD (m * n)) := by
  have := mul10_w (dig 10 m) (dig 10 n) (dig_dg hB10 m) (dig_dg hB10 n) la lb
  rwa [val_dig hB10, val_dig hB10] at this
end Go.Proofs.YtebbekdebanabaaDoor
