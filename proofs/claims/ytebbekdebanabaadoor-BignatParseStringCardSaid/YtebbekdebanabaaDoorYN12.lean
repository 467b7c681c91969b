/- Contracts over data: the reference: Parse. No condition. -/
import Derived.Test.YtebbekdebanabaaDoorYN9
import Derived.Test.YtebbekdebanabaaDoorYV5

set_option linter.unusedSimpArgs false
set_option linter.unusedVariables false
set_option maxHeartbeats 4000000
set_option maxRecDepth 8000
namespace Go.Proofs.YtebbekdebanabaaDoor
open Go Go.RowKit Go.PP Go.Dm Go.Bn
/-- The digits that a text's bytes stand for. -/
def dgP (s : List UInt8) : List Nat := (s.map fun b => b.toNat - 48).reverse
theorem dgP_len (s : List UInt8) : (dgP s).length = s.length := by unfold dgP; rw [List.length_reverse, List.length_map]
theorem dgP_val : ∀ s : List UInt8, val 10 (dgP s) = valN s := by
  refine bsnoc rfl fun s b ih => ?_
  rw [valN_snoc, ← ih]
  unfold dgP
  rw [List.map_append, List.reverse_append, List.map_singleton, List.reverse_singleton, List.singleton_append]
  show (b.toNat - 48) + 10 * val 10 _ = _
  omega
theorem dgP_dg {s : List UInt8} (h : ∀ b ∈ s, isDg b = true) : Dg 10 (dgP s) := fun d hd => by
  obtain ⟨b, hb, rfl⟩ := List.mem_map.1 (List.mem_reverse.1 hd)
  have := dg_range (h b hb)
  omega
theorem dgP_step {bs : List UInt8} {i : Nat} {b : UInt8} (h : bs[i]? = some b) : putN (List.replicate (bs.length - i) 0 ++ dgP (bs.take i)) (bs.length - 1 - i) (b.toNat - 48) = List.replicate (bs.length - (i + 1)) 0 ++ dgP (bs.take (i + 1)) := by
  have hi := (List.getElem?_eq_some_iff.1 h).1
  have e : dgP (bs.take (i + 1)) = (b.toNat - 48) :: dgP (bs.take i) := by
    unfold dgP
    rw [List.take_add_one, h, Option.toList_some, List.map_append, List.reverse_append]; rfl
  unfold putN
  rw [e, show bs.length - i = (bs.length - 1 - i) + 1 by omega, List.replicate_succ', show bs.length - (i + 1) = bs.length - 1 - i by omega]
  have hl : (List.replicate (bs.length - 1 - i) 0).length = bs.length - 1 - i := List.length_replicate
  rw [List.append_assoc (List.replicate _ 0), List.take_append_of_le_length (by omega), List.take_of_length_le (by omega), List.drop_append, hl, List.drop_of_length_le (by omega)]
  rw [show bs.length - 1 - i + 1 - (bs.length - 1 - i) = 1 by omega]
  simp
theorem refD_0 : refD 0 = .sl false 1 0 [] := by unfold refD; rw [dig_zero]; rfl
abbrev p10S (s : List UInt8) (i : Nat) : DS := ⟨[(0, strD s), (4, .own 20 s.length), (5, .flat (.int .i64 (i : Nat)))], [(20, some (.row 3 1 s.length (idL (List.replicate (s.length - i) 0 ++ dgP (s.take i)))))]⟩
/-- A text of digits or of others. -/
theorem p10_loop (s : List UInt8) (hl : s.length ≤ 90000) (h0 : s ≠ []) (v : Bool) (d : D) (hv : v = true ∧ (∀ b ∈ s, isDg b = true) ∧ d = refD (valN s) ∨ v = false ∧ (∃ b ∈ s, isDg b ≠ true) ∧ d = refD 0)
    (h48 : 1 < s.length → s[((0 : Int)).toNat]? ≠ some 48) : DFun Tryd.prog 35 [strD s] (.tup [d, .flat (.bool v)]) := by
  have e0 : List.replicate s.length 0 = List.replicate (s.length - 0) 0 ++ dgP (s.take 0) := by rw [List.take_zero, Nat.sub_zero]; exact (List.append_nil _).symm
  have hs1 : 0 < s.length := List.length_pos_iff.2 h0
  obtain ⟨c, hc⟩ : ∃ c, s[((0 : Int)).toNat]? = some c := ⟨_, List.getElem?_eq_getElem hs1⟩
  have hc48 : 1 < s.length → c.toNat ≠ 48 := fun h e => h48 h (by rw [hc, u8_ext (a := c) (b := 48) e])
  by_cases h1 : 1 < s.length
  · have h2 := hc48 h1
    clear h48 hc48
    refine DFun.enterA Tryd.func35 Tryd.ntmps35 ?_
    refine DW.walkTo 4 ?_
    rw [idL_rep, e0]
    refine DW.sub (s' := ⟨[(0, strD s), (4, .own 20 s.length)], [(20, some (.row 3 1 s.length (idL (List.replicate (s.length - 0) 0 ++ dgP (s.take 0)))))]⟩) Sub.auto ?_
    refine DW.walk ?_
    refine DW.loopA (fun i : Nat => p10S s i) (fun i => i ≤ s.length ∧ ∀ b ∈ s.take i, isDg b = true) (fun i => s.length - i) 0 ?_ ⟨Nat.zero_le _, fun b hb => by cases hb⟩
    rintro i ⟨hi, ha⟩
    clear e0 hs1
    rcases Nat.lt_or_ge i s.length with hlt | hge
    · obtain ⟨b, hb⟩ : ∃ b, s[i]? = some b := ⟨_, List.getElem?_eq_getElem hlt⟩
      have hb2 := UInt8.toNat_lt b
      have hbm := List.mem_of_getElem? hb
      by_cases hdig : isDg b = true
      · have hr := dg_range hdig
        have ha2 : ∀ x ∈ s.take (i + 1), isDg x = true := by
          intro x hx
          rw [List.take_add_one, hb, Option.toList_some] at hx
          rcases List.mem_append.1 hx with hx | hx
          · exact ha x hx
          · rw [List.mem_singleton.1 hx]; exact hdig
        have hst := dgP_step hb
        have hlen : (idL (List.replicate (s.length - i) 0 ++ dgP (s.take i))).length = s.length := by
          rw [idL_len, List.length_append, List.length_replicate, dgP_len, List.length_take]
          omega
        have hsp : ∀ off : Nat, SplD (idL (List.replicate (s.length - i) 0 ++ dgP (s.take i))) (off * 1) [.flat (.int .i64 ((b.toNat : Int) - 48))] (idL (putN (List.replicate (s.length - i) 0 ++ dgP (s.take i)) off (b.toNat - 48))) := fun off => by
          rw [show ((b.toNat : Int) - 48) = ((b.toNat - 48 : Nat) : Int) by omega]
          infer_instance
        clear ha hv hdig hbm
        refine DW.walk ?_
        rw [show ((s.length : Int) - 1 - (i : Int)).toNat = s.length - 1 - i by omega, hst]
        exact ⟨i + 1, ⟨by omega, ha2⟩, by omega, Sub.auto⟩
      · obtain ⟨rfl, hd⟩ : v = false ∧ d = refD 0 := by
          rcases hv with ⟨_, h, _⟩ | ⟨h1, _, h2⟩
          · exact absurd (h b hbm) hdig
          · exact ⟨h1, h2⟩
        rw [hd, refD_0]
        have hor : b.toNat < 48 ∨ 57 < b.toNat := by
          refine Classical.byContradiction fun h => hdig ?_
          unfold isDg
          rw [decide_eq_true (by omega), decide_eq_true (by omega)]; rfl
        clear ha hv hbm hdig
        rcases hor with h | h
        · refine DW.walk ?_
          exact ⟨.inr rfl, ResOk.two [] rfl rfl rfl trivial (Vw.p rfl (Le.nil _ _)) (Vw.pers rfl)⟩
        · refine DW.walk ?_
          exact ⟨.inr rfl, ResOk.two [] rfl rfl rfl trivial (Vw.p rfl (Le.nil _ _)) (Vw.pers rfl)⟩
    · obtain rfl : i = s.length := by omega
      rw [List.take_length] at ha
      obtain ⟨rfl, hd⟩ : v = true ∧ d = refD (valN s) := by
        rcases hv with ⟨h1, _, h2⟩ | ⟨_, ⟨b, hb, h⟩, _⟩
        · exact ⟨h1, h2⟩
        · exact absurd (ha b hb) h
      have ht := trim10_d (dgP s) (by rw [dgP_len]; omega)
      rw [trimR_dig hB10 (dgP_dg ha), dgP_val] at ht
      have ht : DFun Tryd.prog 56 [.sl false 1 s.length (idL (dgP s))] (refD (valN s)) := by
        have := dgP_len s
        rw [← this]; exact ht
      have es : p10S s s.length = ⟨[(0, strD s), (4, .own 20 s.length), (5, .flat (.int .i64 (s.length : Nat)))], [(20, some (.row 3 1 s.length (idL (dgP s))))]⟩ := by
        show DS.mk _ _ = _
        rw [Nat.sub_self, List.replicate_zero, List.nil_append, List.take_length]
      rw [hd, es]
      clear hv ha
      refine DW.walkTo 10 ?_
      refine DW.sub (s' := ⟨[(4, .sl false 1 s.length (idL (dgP s)))], []⟩) Sub.auto ?_
      refine DW.walk ?_
      exact ⟨.inr rfl, ResOk.two [] rfl rfl rfl trivial (Vw.pers rfl) (Vw.pers rfl)⟩
  · clear h48 hc48
    refine DFun.enterA Tryd.func35 Tryd.ntmps35 ?_
    refine DW.walkTo 4 ?_
    rw [idL_rep, e0]
    refine DW.sub (s' := ⟨[(0, strD s), (4, .own 20 s.length)], [(20, some (.row 3 1 s.length (idL (List.replicate (s.length - 0) 0 ++ dgP (s.take 0)))))]⟩) Sub.auto ?_
    refine DW.walk ?_
    refine DW.loopA (fun i : Nat => p10S s i) (fun i => i ≤ s.length ∧ ∀ b ∈ s.take i, isDg b = true) (fun i => s.length - i) 0 ?_ ⟨Nat.zero_le _, fun b hb => by cases hb⟩
    rintro i ⟨hi, ha⟩
    clear e0 hs1
    rcases Nat.lt_or_ge i s.length with hlt | hge
    · obtain ⟨b, hb⟩ : ∃ b, s[i]? = some b := ⟨_, List.getElem?_eq_getElem hlt⟩
      have hb2 := UInt8.toNat_lt b
      have hbm := List.mem_of_getElem? hb
      by_cases hdig : isDg b = true
      · have hr := dg_range hdig
        have ha2 : ∀ x ∈ s.take (i + 1), isDg x = true := by
          intro x hx
          rw [List.take_add_one, hb, Option.toList_some] at hx
          rcases List.mem_append.1 hx with hx | hx
          · exact ha x hx
          · rw [List.mem_singleton.1 hx]; exact hdig
        have hst := dgP_step hb
        have hlen : (idL (List.replicate (s.length - i) 0 ++ dgP (s.take i))).length = s.length := by
          rw [idL_len, List.length_append, List.length_replicate, dgP_len, List.length_take]
          omega
        have hsp : ∀ off : Nat, SplD (idL (List.replicate (s.length - i) 0 ++ dgP (s.take i))) (off * 1) [.flat (.int .i64 ((b.toNat : Int) - 48))] (idL (putN (List.replicate (s.length - i) 0 ++ dgP (s.take i)) off (b.toNat - 48))) := fun off => by
          rw [show ((b.toNat : Int) - 48) = ((b.toNat - 48 : Nat) : Int) by omega]
          infer_instance
        clear ha hv hdig hbm
        refine DW.walk ?_
        rw [show ((s.length : Int) - 1 - (i : Int)).toNat = s.length - 1 - i by omega, hst]
        exact ⟨i + 1, ⟨by omega, ha2⟩, by omega, Sub.auto⟩
      · obtain ⟨rfl, hd⟩ : v = false ∧ d = refD 0 := by
          rcases hv with ⟨_, h, _⟩ | ⟨h1, _, h2⟩
          · exact absurd (h b hbm) hdig
          · exact ⟨h1, h2⟩
        rw [hd, refD_0]
        have hor : b.toNat < 48 ∨ 57 < b.toNat := by
          refine Classical.byContradiction fun h => hdig ?_
          unfold isDg
          rw [decide_eq_true (by omega), decide_eq_true (by omega)]; rfl
        clear ha hv hbm hdig
        rcases hor with h | h
        · refine DW.walk ?_
          exact ⟨.inr rfl, ResOk.two [] rfl rfl rfl trivial (Vw.p rfl (Le.nil _ _)) (Vw.pers rfl)⟩
        · refine DW.walk ?_
          exact ⟨.inr rfl, ResOk.two [] rfl rfl rfl trivial (Vw.p rfl (Le.nil _ _)) (Vw.pers rfl)⟩
    · obtain rfl : i = s.length := by omega
      rw [List.take_length] at ha
      obtain ⟨rfl, hd⟩ : v = true ∧ d = refD (valN s) := by
        rcases hv with ⟨h1, _, h2⟩ | ⟨_, ⟨b, hb, h⟩, _⟩
        · exact ⟨h1, h2⟩
        · exact absurd (ha b hb) h
      have ht := trim10_d (dgP s) (by rw [dgP_len]; omega)
      rw [trimR_dig hB10 (dgP_dg ha), dgP_val] at ht
      have ht : DFun Tryd.prog 56 [.sl false 1 s.length (idL (dgP s))] (refD (valN s)) := by
        have := dgP_len s
        rw [← this]; exact ht
      have es : p10S s s.length = ⟨[(0, strD s), (4, .own 20 s.length), (5, .flat (.int .i64 (s.length : Nat)))], [(20, some (.row 3 1 s.length (idL (dgP s))))]⟩ := by
        show DS.mk _ _ = _
        rw [Nat.sub_self, List.replicate_zero, List.nil_append, List.take_length]
      rw [hd, es]
      clear hv ha
      refine DW.walkTo 10 ?_
      refine DW.sub (s' := ⟨[(4, .sl false 1 s.length (idL (dgP s)))], []⟩) Sub.auto ?_
      refine DW.walk ?_
      exact ⟨.inr rfl, ResOk.two [] rfl rfl rfl trivial (Vw.pers rfl) (Vw.pers rfl)⟩
theorem parse10_ok (s : List UInt8) (hl : s.length ≤ 90000) (h : Canon s) : DFun Tryd.prog 35 [strD s] (.tup [refD (valN s), .flat (.bool true)]) :=
  p10_loop s hl h.1 true _ (.inl ⟨rfl, h.2.1, rfl⟩) fun h1 h2 => h.2.2 ⟨h1, by rw [List.head?_eq_getElem?]; exact h2⟩
theorem parse10_bad (s : List UInt8) (hl : s.length ≤ 90000) (h : ¬ Canon s) : DFun Tryd.prog 35 [strD s] (.tup [refD 0, .flat (.bool false)]) := by
  by_cases h48 : 1 < s.length → s[((0 : Int)).toNat]? ≠ some 48
  · rcases canon_or s with hc | hc | ⟨hc1, hc2⟩ | ⟨hc1, hc2, hc3⟩
    · exact absurd hc h
    · subst hc
      rw [refD_0]
      clear h48 h hl
      refine DFun.enterA Tryd.func35 Tryd.ntmps35 ?_
      refine DW.walk ?_
      exact ⟨.inr rfl, ResOk.two [] rfl rfl rfl trivial (Vw.p rfl (Le.nil _ _)) (Vw.pers rfl)⟩
    · refine p10_loop s hl hc1 false _ (.inr ⟨rfl, ?_, rfl⟩) h48
      refine Classical.byContradiction fun hn => hc2 fun b hb => Classical.byContradiction fun hb2 => hn ⟨b, hb, hb2⟩
    · exact absurd (by rw [← hc2, List.head?_eq_getElem?]; rfl) (h48 hc1)
  · have h1 : 1 < s.length := Classical.byContradiction fun h => h48 fun h2 => absurd h2 h
    have h2 : s[((0 : Int)).toNat]? = some 48 := Classical.byContradiction fun h => h48 fun _ => h
    have hs : s ≠ [] := fun e => by rw [e] at h1; exact absurd h1 (by simp)
    rw [refD_0]
    clear h48 h
    refine DFun.enterA Tryd.func35 Tryd.ntmps35 ?_
    refine DW.walk ?_
    exact ⟨.inr rfl, ResOk.two [] rfl rfl rfl trivial (Vw.p rfl (Le.nil _ _)) (Vw.pers rfl)⟩
end Go.Proofs.YtebbekdebanabaaDoor
