/- The law of powers, over data. No condition. -/
import Derived.Test.YtebbekdebanabaaDoorYY10

set_option linter.unusedSimpArgs false
set_option linter.unusedVariables false
set_option maxHeartbeats 4000000
set_option maxRecDepth 8000
namespace Go.Proofs.YtebbekdebanabaaDoor
open Go Go.RowKit Go.PP Go.Dm Go.Bn
theorem law10_d (a : List UInt8) (n : Int) (ha : a.length ≤ 140737488351232) (hn : (Lit.int .i64 n).wf = true) : DFun Tryd.prog 10 [byD a, .flat (.int .i64 n)] (.flat (.bool true)) := by
  have hr : -9223372036854775808 ≤ n ∧ n ≤ 9223372036854775807 := by simpa [Lit.wf, IntKind.min, IntKind.max, IntKind.signed, IntKind.bits] using hn
  clear hn
  by_cases h1 : a.length ≤ 20
  · have hx10 : numB a < 10 ^ 20 := Nat.lt_of_lt_of_le (numB_lt a) (Nat.pow_le_pow_right (by decide) h1)
    have hx : numB a < 2 ^ 67 := Nat.lt_trans hx10 (by decide)
    have lx := lenB hx (by decide)
    have hb67 := blen_le hx
    have fa := of_d a (by omega)
    have ga := digits_d a (by omega)
    by_cases hz : n < 0
    · exact w10_0 a h1 (numB a) n hz fa hr.1
    · obtain ⟨k, rfl⟩ : ∃ k : Nat, n = (k : Int) := ⟨n.toNat, by omega⟩
      by_cases hA : k < 65536
      · by_cases h30 : k ≤ 30
        · exact w10_1 a h1 _ k fa h30 hx hx10 ga
        · by_cases hb : blen (numB a) < 2
          · exact w10_2a a h1 _ k fa hA (by omega) lx hb
          · by_cases hf : (blen (numB a) - 1) * k < 65536
            · exact w10_4 a h1 _ k fa hA (by omega) lx (by omega) hb67 hf
            · exact w10_3a a h1 _ k fa hA (by omega) lx (by omega) hb67 (by omega)
      · by_cases hb : blen (numB a) < 2
        · by_cases hM : k ≤ 1048576
          · exact w10_2b a h1 _ k fa (by omega) (by omega) hM (by omega) lx hb
          · exact w10_6 a h1 _ k fa (by omega) (by omega) lx hb
        · exact w10_3b a h1 _ k fa (by omega) (by omega) (by omega) lx (by omega) hb67
  · have hkn := known_d
    refine DFun.enterA Tryd.func10 Tryd.ntmps10 ?_
    refine DW.walk ?_
    exact ⟨.inr rfl, ResOk.one [] rfl rfl trivial (Vw.pers rfl)⟩
end Go.Proofs.YtebbekdebanabaaDoor
