/- The law of corruption: a changed byte. No condition. -/
import Derived.Test.YtjmljmappfhiaaaDoorYT9b

set_option linter.unusedSimpArgs false
set_option linter.unusedVariables false
set_option maxHeartbeats 8000000
set_option maxRecDepth 8000
namespace Go.Proofs.YtjmljmappfhiaaaDoor
open Go Go.RowKit Go.PP Go.Dm

theorem law9_m (l : List (Bs × Bs)) (c w : List (Bs × Bs)) (z1 z2 : Int) (by_ : UInt8) (hz0 : 0 ≤ z1 ∧ z1 ≤ 255) (hz1 : 0 ≤ z2 ∧ z2 ≤ 255) (hcut : DFun Tryd.prog 11 [entsD l] (entsD c)) (hmade : DFun Tryd.prog 25 [entsD c] (.tup [.ptr [entsD w] 0, entsD w])) (hgl : w.length ≤ 30) (hal : (allW w).length ≤ 30 * 260) (hsm : Sm w) (hok : ∀ e ∈ w, errE e = 0) (h16 : DFun Tryd.prog 16 [] (.flat (.bool true))) (hw0 : ¬ w = []) (hl9 : l.length ≤ 140737488351232) : DFun Tryd.prog 9 [entsD l, .flat (.int .u8 z1), .flat (.int .u8 z2), .flat (.int .u8 by_.toNat)] (.flat (.bool true)) := by
  have hwp : 0 < w.length := List.length_pos_iff.2 hw0
  obtain ⟨a, rfl⟩ : ∃ a : Nat, z1 = a := ⟨z1.toNat, by omega⟩
  obtain ⟨k, hk, hkl⟩ : ∃ k : Nat, (a : Int).tmod (w.length : Int) = k ∧ k < w.length := ⟨a % w.length, remN _ _, Nat.mod_lt a hwp⟩
  obtain ⟨e, he⟩ : ∃ e, w[k]? = some e := ⟨w[k], by simp⟩
  have hp := ent_part he
  have hp1 := ent_f1 he
  obtain ⟨e1, e2⟩ := hsm.2 e (List.mem_of_getElem? he)
  have heo := hok e (List.mem_of_getElem? he)
  by_cases h0 : e.2.length = 0
  · exact law9_b l c w a z2 by_ hz0 hz1 hcut hmade hgl hal hsm hok h16 hw0 k hk hkl e he (.inl h0)
  by_cases hb0 : (by_.toNat : Int) = 0
  · exact law9_b l c w a z2 by_ hz0 hz1 hcut hmade hgl hal hsm hok h16 hw0 k hk hkl e he (.inr ⟨h0, hb0⟩)
  have hby0 : by_ ≠ 0 := fun h => hb0 (by rw [h]; rfl)
  obtain ⟨a2, rfl⟩ : ∃ a2 : Nat, z2 = a2 := ⟨z2.toNat, by omega⟩
  obtain ⟨r, hr, hrl⟩ : ∃ r : Nat, (a2 : Int).tmod (e.2.length : Int) = r ∧ r < e.2.length := ⟨a2 % e.2.length, remN _ _, Nat.mod_lt a2 (by omega)⟩
  have h20 := bytesL_l w hsm
  have hby := bytesN_d e e1 e2
  rw [← encW_eq] at hby
  have hel := encW_length e
  have hsmk : Sm (w.take k) := ⟨by rw [List.length_take]; have := hsm.1; omega, fun x hx => hsm.2 x (List.mem_of_mem_take hx)⟩
  have h21 := allR_d (w.take k) hsmk
  rw [← take_ents w k (by omega)] at h21
  -- the text and its changed byte
  obtain ⟨ch, hch⟩ : ∃ ch, e.2[r]? = some ch := ⟨e.2[r], by simp⟩
  have hsplit : e.2 = e.2.take r ++ ch :: e.2.drop (r + 1) := by
    conv => lhs; rw [← List.take_append_drop r e.2]
    rw [List.drop_eq_getElem_cons hrl]
    congr 2
    rw [List.getElem?_eq_getElem hrl] at hch
    exact Option.some.inj hch
  have hwsplit : w = w.take k ++ e :: w.drop (k + 1) := by
    conv => lhs; rw [← List.take_append_drop k w]
    rw [List.drop_eq_getElem_cons hkl]
    congr 2
    rw [List.getElem?_eq_getElem hkl] at he
    exact Option.some.inj he
  have hB : allW w = (allW (w.take k) ++ headE e ++ e.2.take r) ++ ch :: (e.2.drop (r + 1) ++ [10] ++ allW (w.drop (k + 1))) := by
    conv => lhs; rw [hwsplit, allW_app, allW_cons, encW_head, hsplit]
    simp
  have hpl : (allW (w.take k) ++ headE e ++ e.2.take r).length = (allW (w.take k)).length + (headE e).length + r := by
    simp only [List.length_append, List.length_take]; omega
  have hset : (allW w).set ((allW (w.take k)).length + (headE e).length + r) (ch ^^^ by_) = allW (w.take k) ++ (headE e ++ (e.2.take r ++ (ch ^^^ by_) :: e.2.drop (r + 1)) ++ [10] ++ allW (w.drop (k + 1))) := by
    rw [← hpl]
    conv => lhs; rw [hB]
    rw [set_mid]
    simp
  have hrec : Rec ((allW w).set ((allW (w.take k)).length + (headE e).length + r) (ch ^^^ by_)) (w.take k) := by
    rw [hset]
    exact rec_corrupt (t := []) (fun x hx => hok x (List.mem_of_mem_take hx)) (corrupt (err_ok heo).2.2 hsplit (xor_ne hby0))
  have hBl : (allW (w.take k)).length + (headE e).length + r < (allW w).length := by
    rw [hB, List.length_append, hpl, List.length_cons]; omega
  have hat : (allW w)[(allW (w.take k)).length + (headE e).length + r]? = some ch := by
    rw [← hpl]
    conv => lhs; rw [hB]
    simp
  have hpb := bD_at hat
  have hput := bD_put (ch ^^^ by_) hBl
  have hsl : ((allW w).set ((allW (w.take k)).length + (headE e).length + r) (ch ^^^ by_)).length = (allW w).length := List.length_set ..
  have h34 := recover_d ((allW w).set ((allW (w.take k)).length + (headE e).length + r) (ch ^^^ by_)) (by omega) (w.take k) hrec
  rw [if_pos (by omega)] at h34
  have hah : (headE e).length + (allW (w.take k)).length ≤ 60000 := by omega
  generalize hBB : allW w = B at *
  generalize hAA : (allW (w.take k)).length = ah at *
  generalize hHH : (headE e).length = hd at *
  generalize hPP : ah + hd + r = pl at *
  generalize B.set pl (ch ^^^ by_) = B2 at *
  have hblen : (bD B).length = B.length := bD_len B
  have hpB := bD_pers B
  have hpB2 := bD_pers B2
  have hwk : (w.take k).length = k := by rw [List.length_take]; omega
  have h19 := entries_d (w.take k) (by omega)
  have h18 := to_d (w.take k) (by omega)
  have h17 := same_d (w.take k) (w.take k) (by omega) (by omega)
  rw [decide_eq_true rfl] at h17
  have h17' : DFun Tryd.prog 17 [entsD (w.take k), .sl false 2 k ((entsC w).take (k * 2))] (.flat (.bool true)) := by rw [take_ents w k (by omega)]; exact h17
  clear h17
  generalize hzz : encW e = zz at hby hel
  have hd1 : decide ((ah : Int) = (ah : Int)) = true := by simp
  refine DFun.enterA Tryd.func9 Tryd.ntmps9 ?_
  refine DW.walkTo 12 ?_
  refine DW.sub (s' := ⟨[(3, .flat (.int .u8 by_.toNat)), (10, entsD w), (11, .flat (.int .i64 k)), (12, .flat (.int .i64 ah)), (13, .own 1050 B.length), (14, .flat (.int .i64 pl))], [(1050, some (.row 5 1 B.length (bD B)))]⟩) Sub.auto ?_
  refine DW.walkTo 15 ?_
  refine DW.sub (s' := ⟨[(10, entsD w), (11, .flat (.int .i64 k)), (12, .flat (.int .i64 ah)), (13, .own 1050 B2.length)], [(1050, some (.row 5 1 B2.length (bD B2)))]⟩) Sub.auto ?_
  refine DW.walk ?_
  refine DC.t (T.giveRow EntC.h h34 hpB2) ⟨rfl, trivial⟩ ⟨rfl, trivial⟩ ?_
  refine DC.walk ?_
  exact ⟨.inr rfl, ResOk.one [] rfl rfl trivial (Vw.pers rfl)⟩
end Go.Proofs.YtjmljmappfhiaaaDoor
