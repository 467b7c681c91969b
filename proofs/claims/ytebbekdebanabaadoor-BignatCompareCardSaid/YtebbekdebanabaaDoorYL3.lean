/- Contracts over data: divisions that are short. No condition. -/
import Derived.Test.YtebbekdebanabaaDoorYQ2
import Derived.Test.YtebbekdebanabaaDoorYM1
import Derived.Test.YtebbekdebanabaaDoorYW4
import Derived.Test.YtebbekdebanabaaDoorYX1

set_option linter.unusedSimpArgs false
set_option linter.unusedVariables false
set_option maxHeartbeats 4000000
set_option maxRecDepth 8000
namespace Go.Proofs.YtebbekdebanabaaDoor
open Go Go.RowKit Go.PP Go.Dm Go.Bn
theorem cell2Tmp {fn : Func} {s : DS} {x x2 u : Tmp} {id id2 : Nat} {d d' d2 d2' e e' : D} (pe : Sg) (hr : fn.results = #[.cell x 25, .cell x2 25, .tmp u]) (hx : lkF s.f x = .ref id 0) (hi : lkE s.σ id = some (.box [d]))
    (hx2 : lkF s.f x2 = .ref id2 0) (hi2 : lkE s.σ id2 = some (.box [d2])) (hu : lkF s.f u = e) (he : Ens s.σ pe) (h : Vw pe d d') (h2 : Vw pe d2 d2') (h3 : Vw pe e e') (hk : keysOf [d] = none := by rfl) (hk2 : keysOf [d2] = none := by rfl) : ResOk Tryd.prog fn s (.tup [.agg [d'], .agg [d2'], e']) := fun w0 M0 B0 N g a w hs => by
  have h0 := hs.tm x
  rw [hx] at h0
  obtain ⟨ad, v, h1, h4, h5⟩ := run_loadBox (P := Tryd.prog) hs hi ag25 sz25 (d := .agg [d]) rfl hk h0
  rw [Array.getD_eq_getD_getElem?] at h1
  have h0' := hs.tm x2
  rw [hx2] at h0'
  obtain ⟨ad2, v2, h12, h42, h52⟩ := run_loadBox (P := Tryd.prog) hs hi2 ag25 sz25 (d := .agg [d2]) rfl hk2 h0'
  rw [Array.getD_eq_getD_getElem?] at h12
  have hu0 := hs.tm u
  rw [hu] at hu0
  refine ⟨.tuple #[v, v2, a.tmps.getD u undef], by simp [results, hr, h1, h4, h12, h42], ?_⟩
  simp only [Rep]
  refine ⟨[_, _, _], rfl, ?_⟩
  simp only [RepL]
  exact ⟨_, _, rfl, (Vw.agg (VwL.cons h VwL.nil)).out hs he h5, _, _, rfl, (Vw.agg (VwL.cons h2 VwL.nil)).out hs he h52, _, _, rfl, h3.out hs he hu0, rfl⟩
theorem nat0 : natD 0 = .agg [.sl false 1 0 []] := by unfold natD; rw [dig_zero]; rfl
theorem divmod_0 (m : Nat) : DFun Tryd.prog 17 [natD m, natD 0] (.tup [natD 0, natD 0, .flat (.int .i64 1)]) := by
  have hz := isz_d 0
  rw [decide_eq_true rfl] at hz
  rw [nat0] at hz ⊢
  refine DFun.enterA Tryd.func17 Tryd.ntmps17 ?_
  refine DW.walk ?_
  exact ⟨.inr rfl, cell2Tmp [] rfl rfl rfl rfl rfl rfl trivial (Vw.p rfl (Le.nil _ _)) (Vw.p rfl (Le.nil _ _)) (Vw.pers rfl)⟩
theorem divmod_lt (m n : Nat) (la : (dig BW m).length ≤ 100000) (lb : (dig BW n).length ≤ 100000) (h : m < n) : DFun Tryd.prog 17 [natD m, natD n] (.tup [natD 0, natD m, .flat (.int .i64 0)]) := by
  have hz := isz_d n
  rw [decide_eq_false (by omega)] at hz
  have hc := cmp_d m n (by omega) (by omega)
  have hcz : cmpZ m n < 0 := by unfold cmpZ; rw [if_pos h]; decide
  rw [nat0]
  generalize cmpZ m n = z at *
  refine DFun.enterA Tryd.func17 Tryd.ntmps17 ?_
  refine DW.walk ?_
  exact ⟨.inr rfl, cell2Tmp [] rfl rfl rfl rfl rfl rfl trivial (Vw.p rfl (Le.nil _ _)) (Vw.pers rfl) (Vw.pers rfl)⟩
theorem divmod_1 (m n : Nat) (la : (dig BW m).length ≤ 100000) (h0 : 0 < n) (hn : n < 4294967296) (h : n ≤ m) : DFun Tryd.prog 17 [natD m, natD n] (.tup [natD (m / n), natD (m % n), .flat (.int .i64 0)]) := by
  have hl1 : dig BW n = [n] := by
    rw [dig_pos hBW (by omega), show n / BW = 0 from Nat.div_eq_of_lt hn, dig_zero, show n % BW = n from Nat.mod_eq_of_lt hn]
  have lb : (dig BW n).length ≤ 100000 := by rw [hl1]; simp
  have hz := isz_d n
  rw [decide_eq_false (by omega)] at hz
  have hc := cmp_d m n (by omega) (by omega)
  have hcz : ¬ cmpZ m n < 0 := by unfold cmpZ; rw [if_neg (by omega)]; split <;> decide
  have hw := word_d (dig BW n) 0 (by omega) (by omega) (dig_dg hBW n)
  have hat : atD (dig BW n) 0 = n := by rw [hl1]; rfl
  rw [hat] at hw
  have hs := short_d m n h0 hn la
  have hf := fromU_d (m % n) (by have := Nat.mod_lt m h0; omega)
  have hlen : (((dig BW n).length : Nat) : Int) = 1 := by rw [hl1]; rfl
  generalize cmpZ m n = z at *
  refine DFun.enterA Tryd.func17 Tryd.ntmps17 ?_
  refine DW.walk ?_
  exact ⟨.inr rfl, cell2Tmp [] rfl rfl rfl rfl rfl rfl trivial (Vw.pers rfl) (Vw.pers rfl) (Vw.pers rfl)⟩
end Go.Proofs.YtebbekdebanabaaDoor
