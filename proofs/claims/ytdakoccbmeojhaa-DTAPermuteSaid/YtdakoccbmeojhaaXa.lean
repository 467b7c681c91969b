/- Contract of Turn of the reference. Condition: a valid automaton and a list in memory. -/
import Derived.Test.YtdakoccbmeojhaaWz
set_option linter.unusedSimpArgs false
set_option linter.unusedVariables false
set_option maxHeartbeats 400000
namespace Go.Proofs.Ytdakoccbmeojhaa
open Go Go.RowKit Go.PP

theorem tn_start (w : World) (v1 v2 v3 : Value) (C : World) (hC : C = (w.alloc (.cells #[v1, v2, v3] 26)).alloc (.cells #[.slice none 0 0, .slice none 0 0, .slice none 0 0] 26)) :
    BoxA w.heap.size v1 v2 v3 C ∧ BoxA (w.heap.size + 1) (.slice none 0 0) (.slice none 0 0) (.slice none 0 0) C ∧ (∀ i, C.frozen? ⟨w.heap.size + 1, i, none⟩ = false) ∧ Fix w C ∧ w.heap.size + 2 ≤ C.heap.size := by
  subst hC
  refine ⟨⟨?_, ?_, ?_⟩, ⟨?_, ?_, ?_⟩, fun i => ?_, ((Mut.refl _ w).alloc _).alloc _, by simp⟩
  · exact box_keep _ (box_at _ _ rfl _ _ _ _ rfl)
  · exact box_keep _ (box_at _ _ rfl _ _ _ _ rfl)
  · exact box_keep _ (box_at _ _ rfl _ _ _ _ rfl)
  · exact box_at _ _ (by simp) _ _ _ _ rfl
  · exact box_at _ _ (by simp) _ _ _ _ rfl
  · exact box_at _ _ (by simp) _ _ _ _ rfl
  · go_simp

set_option maxRecDepth 8000 in
set_option maxHeartbeats 8000000 in
theorem turn_any (A : Au) (hok : AuOk A) (l : List Int) (v1 v2 v3 vl : Value) (w : World) (hA : AuIn (fun _ => False) w v1 v2 v3 A) (hl : Ints (fun _ => False) w vl l) :
    Calls Try.prog 30 #[.agg #[v1, v2, v3], vl] w (PairPost w (permE A l)) := by
  have hl0 := Lib.hid hl
  have hA0 := Lib.hid hA
  obtain ⟨xo, co, rfl, lo⟩ := hl.open'
  obtain ⟨a1, c1, a2, c2, a3, c3, rfl, rfl, rfl, -, -, -⟩ := hA.open
  clear hl hA
  obtain ⟨hBX, hRR, hRf, hcW, hzc⟩ := tn_start w (.slice a1 A.ranks.length c1) (.slice a2 A.final.length c2) (.slice a3 A.to.length c3) _ rfl
  obtain ⟨k0, k1, k2⟩ := hBX
  obtain ⟨r0, r1, r2⟩ := hRR
  replace hcW := Lib.hid hcW
  by_cases hln : (l.length : Int) = A.final.length
  rotate_left
  · rw [permE_no (fun h => hln (by rw [h.len]))]
    have hne : ((l.length : Int) != A.final.length) = true := by simp; omega
    replace hln := Lib.hid hln
    have f0 := hRf 0
    have f1 := hRf 1
    have f2 := hRf 2
    have hE := Lib.hid (show PairPost w (A00, 3) (.returned (.tuple #[.agg #[.slice none 0 0, .slice none 0 0, .slice none 0 0], .int .i64 3])) _ from ⟨_, _, _, rfl, au00 _ _, hcW.out⟩)
    clear hRf hzc
    go_enter Try.func30, Try.ntmps30
    go_wp2
    generalize (w.alloc (.cells #[.slice a1 A.ranks.length c1, .slice a2 A.final.length c2, .slice a3 A.to.length c3] 26)).alloc (.cells #[.slice none 0 0, .slice none 0 0, .slice none 0 0] 26) = wc at *
    exact bodyPost_ret (v := .tuple #[.agg #[.slice none 0 0, .slice none 0 0, .slice none 0 0], .int .i64 3]) (by simp [results, Try.results30, go_sem, r0, r1, r2]) rfl hE.out
  have hne : ((l.length : Int) != A.final.length) = false := by simp; omega
  have hn5 : l.length ≤ 512 := by have := hok.hi; omega
  replace hln := Lib.hid hln
  replace hok := Lib.hid hok
  have hP0 := Lib.hid (show Pm w.heap.size (.slice a1 A.ranks.length c1) (.slice a2 A.final.length c2) (.slice a3 A.to.length c3) _ from ⟨⟨k0, k1, k2⟩, ⟨r0, r1, r2⟩, hRf, hzc⟩)
  generalize hPE : permE A l = PE at *
  replace hPE := Lib.hid hPE
  clear hRf r0 r1 r2
  go_enter Try.func30, Try.ntmps30
  go_wp2
  generalize (w.alloc (.cells #[.slice a1 A.ranks.length c1, .slice a2 A.final.length c2, .slice a3 A.to.length c3] 26)).alloc (.cells #[.slice none 0 0, .slice none 0 0, .slice none 0 0] 26) = wc at *
  clear k0 k1 k2
  go_loopw [7, 6] (fun i v wr => ∃ j : Nat, j ≤ l.length ∧ i = .int .i64 j ∧ Fix wc wr ∧ wr.ownsRow wc.heap.size 3 1 v j (((List.range j).map fun (i : Nat) => ((l.idxOf (i : Int) : Nat) : Int)).map (Value.int .i64)) ∧ (∀ m : Nat, m < j → (m : Int) ∈ l)) (fun i _ _ => l.length - (intOf i).toNat)
  case atStart => exact ⟨0, by omega, rfl, Mut.refl _ _, World.ownsRow_nil _ _ _ _, fun m h => by omega⟩
  case round =>
    obtain ⟨j, hj, rfl, hm, hrow, hall⟩ := hrel
    obtain ⟨va, vc, rfl⟩ := ownsRow_slice hrow
    have hPr := Lib.hid (hP0.out.mut hm (by simp))
    have hfw := Lib.hid (hcW.out.trans hm)
    by_cases hlt : j < l.length
    · have hhas := has_any _ l (j : Int) wr (hl0.out.fix hfw.out)
      by_cases hin : (j : Int) ∈ l
      rotate_left
      · rw [hasI_no hin] at hhas
        have hbad : PE = (A00, 3) := by rw [← hPE.out]; exact permE_no (fun h => hin (pigeon_all _ _ h j (by have := hln.out; omega)))
        replace hbad := Lib.hid hbad
        replace hhas := Lib.hid hhas
        clear hm hrow hall hin
        go_wp2_with fail
        refine hhas.out.mono ?_
        rintro e w2 ⟨rfl, m2⟩
        obtain ⟨-, ⟨r0, r1, r2⟩, hff, -⟩ := hPr.out.mut m2 (by simp)
        have f0 := hff 0
        have f1 := hff 1
        have f2 := hff 2
        have hE := Lib.hid (pair_store (E := (A00, 3)) (hfw.out.trans m2) (Nat.le_succ _) (au00 (fun b => b = w.heap.size + 1) w2))
        clear hff m2 hhas
        go_wp2
        exact bodyPost_ret (v := .tuple #[.agg #[.slice none 0 0, .slice none 0 0, .slice none 0 0], .int .i64 3]) (by simp [results, Try.results30, go_sem, r0, r1, r2]) rfl (by have h := hE.out; rw [hbad.out]; exact h)
      · rw [hasI_mem hin] at hhas
        have hal2 := Lib.hid (show ∀ m : Nat, m < j + 1 → (m : Int) ∈ l from fun m h => by
          rcases Nat.lt_or_ge m j with h1 | h1
          · exact hall m h1
          · obtain rfl : m = j := by omega
            exact hin)
        have hsn := Lib.hid (show ((List.range (j + 1)).map fun (i : Nat) => ((l.idxOf (i : Int) : Nat) : Int)).map (Value.int .i64) = ((List.range j).map fun (i : Nat) => ((l.idxOf (i : Int) : Nat) : Int)).map (Value.int .i64) ++ [.int .i64 ((l.idxOf (j : Int) : Nat) : Int)] by
          rw [List.range_succ, List.map_append, List.map_append]; rfl)
        have hlp : (((List.range j).map fun (i : Nat) => ((l.idxOf (i : Int) : Nat) : Int)).map (Value.int .i64)).length = j := by simp
        generalize ((List.range j).map fun (i : Nat) => ((l.idxOf (i : Int) : Nat) : Int)).map (Value.int .i64) = cs at *
        subst hlp
        generalize l.idxOf (cs.length : Int) = r at *
        have hd : decide ((r : Int) < 0) = false := by simp
        replace hhas := Lib.hid hhas
        replace hm := Lib.hid hm
        replace hrow := Lib.hid hrow
        clear hall hin
        go_wp2_with fail
        refine hhas.out.mono ?_
        rintro e w2 ⟨rfl, m2⟩
        have hfz := Lib.hid ((hm.out.trans m2).alloc (.cells #[.int .i64 r] 3))
        have hrw := Lib.hid (ownsRow_mut (ownsRow_mut hrow.out m2 (by simp)) ((Mut.refl (fun _ => False) w2).alloc (.cells #[.int .i64 r] 3)) (by simp))
        have hbx := Lib.hid (cell_new1 w2 (.int .i64 r) 3)
        have hzz := Lib.hid hfz.out.size
        clear m2 hhas hm hrow
        go_wp2_with (at_builtin; refine wpList_push rfl _ _ 22 rfl Try.underlying22 info3 rfl (.slice va cs.length vc) cs (.int .i64 r) rfl hrw.out _ rfl (by exact hbx.out) rfl (by omega) (by decide) (by exact hzz.out) ?_; intro v5 w5 ho5 hg5 hb5; obtain ⟨a5, c5, rfl⟩ := ownsRow_slice ho5)
        have hE := Lib.hid (And.intro (Mut.grown hfz.out hg5 (fun k hk h => by have := (hrw.out.lt k hk).1; omega)) ho5)
        clear hg5 hb5 ho5
        go_wp2
        go_roundw
        case rel => exact ⟨cs.length + 1, by omega, by go_num, hE.out.1, by have h := hE.out.2; rw [hsn.out]; simpa using h, hal2.out⟩
        case measure => simp [intOf]; omega
    · obtain rfl : j = l.length := by omega
      have hpo : PermOk A.final.length l := pigeon_on _ _ (by have := hln.out; omega) (fun i hi => hall i (by have := hln.out; omega))
      have hpe : PE = (keptA A (backL l), 0) := by rw [← hPE.out]; exact permE_ok hpo
      obtain ⟨⟨q0, q1, q2⟩, -, -, -⟩ := hPr.out
      have hbl := backL_len l
      have hio : Ints (fun _ => False) wr (.slice va l.length vc) (backL l) :=
        ints_of_own (by rw [hbl]; exact hrow) (by simp)
      have hcall := Lib.hid (kept_any A hok.out (backL l) (backL_shut hok.out hpo) _ _ _ _ wr (hA0.out.fix hfw.out) hio)
      have hrk := Lib.hid (show (keptA A (backL l)).ranks = A.ranks from rfl)
      replace hpe := Lib.hid hpe
      generalize keptA A (backL l) = MA at *
      clear hm hrow hall hpo hio hbl
      go_wp2_with fail
      refine hcall.out.mono ?_
      rintro e w2 ⟨u2, u3, rfl, hO, m2⟩
      have hAM := hO (fun b => b = w.heap.size + 1) (fun b hb => by have := hPr.out.size; omega) (by rw [hrk.out]; exact (hA0.out.r.fix hfw.out |> fun _ => (hA0.out.r.mono (M' := fun b => b = w.heap.size + 1) (fun b hb e => by omega)).fix hfw.out))
      obtain ⟨x2, y2, rfl⟩ : ∃ a c, u2 = .slice a MA.final.length c := by
        obtain ⟨_, _, a, c, _, _, h1, h2, h3, -⟩ := hAM.open
        exact ⟨a, c, h2⟩
      obtain ⟨x3, y3, rfl⟩ : ∃ a c, u3 = .slice a MA.to.length c := by
        obtain ⟨_, _, _, _, a, c, h1, h2, h3, -⟩ := hAM.open
        exact ⟨a, c, h3⟩
      obtain ⟨-, ⟨r0, r1, r2⟩, hff, -⟩ := hPr.out.mut m2 (by simp)
      have f0 := hff 0
      have f1 := hff 1
      have f2 := hff 2
      have hE := Lib.hid (pair_store (E := (MA, 0)) (hfw.out.trans m2) (Nat.le_succ _) hAM)
      clear hff m2 hO q0 q1 q2 hcall hAM
      go_wp2
      exact bodyPost_ret (v := .tuple #[.agg #[.slice a1 A.ranks.length c1, .slice x2 MA.final.length y2, .slice x3 MA.to.length y3], .int .i64 0]) (by simp [results, Try.results30, go_sem, r0, r1, r2]) rfl (by have h := hE.out; rw [hpe.out]; exact h)
end Go.Proofs.Ytdakoccbmeojhaa
