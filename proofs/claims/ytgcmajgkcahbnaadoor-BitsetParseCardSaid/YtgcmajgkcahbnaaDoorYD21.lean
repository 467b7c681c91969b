/- Contracts over data: the reference, Parse, whole. No condition. -/
import Derived.Test.YtgcmajgkcahbnaaDoorXSl
import Derived.Test.YtgcmajgkcahbnaaDoorYD19

set_option linter.unusedSimpArgs false
set_option linter.unusedVariables false
set_option maxHeartbeats 8000000
set_option maxRecDepth 8000
namespace Go.Bs
open Go
def lastO (out : List Int) : Int := out.getLastD (-1)
theorem lastO_snoc (out : List Int) (x : Int) : lastO (out ++ [x]) = x := by unfold lastO; rw [List.getLastD_eq_getLast?, List.getLast?_append]; rfl
theorem lastO_at {out : List Int} (h : 0 < out.length) : out[out.length - 1]? = some (lastO out) := by
  unfold lastO
  rw [List.getLastD_eq_getLast?, List.getLast?_eq_getElem?, List.getElem?_eq_getElem (by omega)]; rfl
theorem rest_at (s : List UInt8) (f : Nat) : rest (s.drop f) = s.drop (f + (digs (s.drop f)).length) := by rw [← drop_digs, List.drop_drop]
theorem drop_one' {s : List UInt8} {a : Nat} : s.drop a = [125] ↔ a + 1 = s.length ∧ s[a]? = some 125 := by
  constructor
  · intro h
    have h1 := congrArg List.length h
    rw [List.length_drop, List.length_singleton] at h1
    refine ⟨by omega, ?_⟩
    have h2 := congrArg List.head? h
    rw [List.head?_drop] at h2
    exact h2
  · rintro ⟨h1, h2⟩
    have h3 : s[a]'(by omega) = 125 := by rw [List.getElem?_eq_getElem (by omega)] at h2; exact Option.some.inj h2
    rw [List.drop_eq_getElem_cons (by omega), h3, List.drop_eq_nil_of_le (by omega)]
end Go.Bs
namespace Go.Proofs.YtgcmajgkcahbnaaDoor
open Go Go.RowKit Go.PP Go.Dm Go.Bs
theorem toNat_of {b : UInt8} {n : Nat} (hn : n < 256) : (b.toNat : Int) = n ↔ b = UInt8.ofNat n := by
  constructor
  · intro h
    exact u8_ext (by rw [UInt8.toNat_ofNat', Nat.mod_eq_of_lt hn]; omega)
  · intro h
    rw [h, UInt8.toNat_ofNat', Nat.mod_eq_of_lt hn]
theorem is48 {b : UInt8} : (b.toNat : Int) = 48 ↔ b = 48 := toNat_of (n := 48) (by decide)
theorem is32 {b : UInt8} : (b.toNat : Int) = 32 ↔ b = 32 := toNat_of (n := 32) (by decide)
theorem is125 {b : UInt8} : (b.toNat : Int) = 125 ↔ b = 125 := toNat_of (n := 125) (by decide)
theorem is123 {b : UInt8} : (b.toNat : Int) = 123 ↔ b = 123 := toNat_of (n := 123) (by decide)
abbrev mapI (out : List Int) : List D := out.map fun x => .flat (.int .i64 x)
abbrev rpS (s : List UInt8) (a f n : Nat) (out : List Int) : DS := ⟨[(0, strD s), (4, .own 17 out.length), (5, .flat (.int .i64 (a : Nat))), (6, .flat (.int .i64 (f : Nat))), (7, .flat (.int .i64 (n : Nat)))], [(17, some (.row 3 1 out.length (mapI out)))]⟩
theorem sub_next1 (s : List UInt8) (a f n k : Nat) (Y : List D) (hY : persL Y = true) : Sub 118 ⟨[(0, strD s), (4, .own 17 (k + 1)), (5, .flat (.int .i64 ((a + 1 : Nat) : Int))), (6, .flat (.int .i64 (f : Nat))), (7, .flat (.int .i64 (n : Nat)))], [(17, some (.row 3 1 (k + 1) Y))]⟩ ⟨[(0, strD s), (4, .own 17 (k + 1)), (5, .flat (.int .i64 ((a + 1 : Nat) : Int)))], [(17, some (.row 3 1 (k + 1) Y))]⟩ := Sub.auto
/-- What follows the digits: an answer, or the next number. -/
theorem rr_rest {cc : Code} (hsel : selC [1, 1, 1, 1, 1, 2, 2, 2, 1, 1, 1] code52 = some cc) (s : List UInt8) (f : Nat) (out : List Int) (hs : s.length ≤ 100000) (hf : f ≤ s.length) (ho : out.length ≤ f) (R : List Int × Int) (hR : parS (lastO out) out (s.drop f) = R) :
    DW Tryd.prog 118 cc (rpS s (f + (digs (s.drop f)).length) f (satN (digs (s.drop f))) out) (fun e s' => RtQ (.tup [intsD R.1, .flat (.int .i64 R.2)]) e s' ∨ (e = .exit 1 ∧ ∃ (a : Nat) (out2 : List Int), parS (lastO out2) out2 (s.drop a) = R ∧ a ≤ s.length ∧ f < a ∧ out2.length ≤ a ∧ Sub 118 s' ⟨[(0, strD s), (4, .own 17 out2.length), (5, .flat (.int .i64 (a : Nat)))], [(17, some (.row 3 1 out2.length (mapI out2)))]⟩)) := by
  have hlen := congrArg List.length (digs_rest (s.drop f))
  rw [List.length_append, List.length_drop] at hlen
  have hX : persL (mapI out) = true := persL_map (fun _ => rfl) _
  have hk : out.length ≤ 100000 := by omega
  rw [parS] at hR
  have hra := rest_at s f
  have hall := digs_all (s.drop f)
  have hb1 : ∀ b, s[f]? = some b → 0 < (digs (s.drop f)).length → (digs (s.drop f)).head? = some b := fun b hb h0 => by
    have e : (s.drop f)[0]? = some b := by rw [List.getElem?_drop]; exact hb
    rw [← digs_rest (s.drop f), List.getElem?_append_left h0] at e
    rw [List.head?_eq_getElem?]; exact e
  have retR : ∀ {a : List Int} {e : Int} {c : Code} {S : DS}, (a, e) = R → DW Tryd.prog 118 c S (RtQ (.tup [intsD a, .flat (.int .i64 e)])) → DW Tryd.prog 118 c S (fun e s' => RtQ (.tup [intsD R.1, .flat (.int .i64 R.2)]) e s' ∨ (e = .exit 1 ∧ ∃ (a : Nat) (out2 : List Int), parS (lastO out2) out2 (s.drop a) = R ∧ a ≤ s.length ∧ f < a ∧ out2.length ≤ a ∧ Sub 118 s' ⟨[(0, strD s), (4, .own 17 out2.length), (5, .flat (.int .i64 (a : Nat)))], [(17, some (.row 3 1 out2.length (mapI out2)))]⟩)) := fun hr h => h.mono fun e s' q => .inl (by rw [← hr]; exact q)
  refine DW.sel hsel (by rfl) ?_
  by_cases h0 : digs (s.drop f) = []
  · rw [if_pos (.inl h0)] at hR
    refine retR hR (rr13_0 (by rfl) s f _ _ _ _ hs hk hX ?_ ?_)
    · rw [h0]; rfl
    · omega
  have hp : 0 < (digs (s.drop f)).length := List.length_pos_iff.2 h0
  obtain ⟨b, hb⟩ : ∃ b, s[f]? = some b := ⟨_, List.getElem?_eq_getElem (show f < s.length by omega)⟩
  have hh := hb1 b hb hp
  have hb' : s[((f : Nat) : Int).toNat]? = some b := by rw [Int.toNat_natCast]; exact hb
  by_cases hbad : badN (digs (s.drop f))
  · rw [if_pos hbad] at hR
    rcases hbad with hbad | ⟨q1, q2⟩
    · exact absurd hbad h0
    · rw [hh, Option.some.injEq] at q2
      exact retR hR (rr13_1 (by rfl) s f _ _ _ _ hs hk hX b (by omega) (by omega) hb' (is48.2 q2) (by omega))
  rw [if_neg hbad] at hR
  have h13 : ∀ cc : Code, selC [1, 1, 1, 1, 1, 2, 2, 2, 1, 1, 1, 0] code52 = some cc → DW Tryd.prog 118 cc (rpS s (f + (digs (s.drop f)).length) f (satN (digs (s.drop f))) out) (Nm 118 (rpS s (f + (digs (s.drop f)).length) f (satN (digs (s.drop f))) out)) := fun cc hc => by
    by_cases h48 : (b.toNat : Int) = 48
    · refine rr13_b hc s f _ _ _ _ hs hk hX b (by omega) (by omega) hb' h48 fun h => hbad (.inr ⟨by omega, ?_⟩)
      rw [hh, is48.1 h48]
    · exact rr13_a hc s f _ _ _ _ hs hk hX b (by omega) (by omega) hb' h48
  refine DW.seq ?_
  refine DW.cut _ (h13 _ (by rfl)) ?_
  by_cases hbig : 1023 < valN (digs (s.drop f))
  · rw [if_pos hbig] at hR
    exact retR hR (rr15_x (by rfl) s f _ _ _ _ hs hk hX ((satN_big hall).2 hbig))
  rw [if_neg hbig] at hR
  have hn := satN_eq hall hbig
  refine DW.seq ?_
  refine DW.cut _ (rr15_a (by rfl) s f _ _ _ _ hs hk hX (fun h => hbig ((satN_big hall).1 h))) ?_
  rw [hn]
  have hla : 0 < out.length → partD false 1 (((out.length : Int) - 1).toNat * 1) (mapI out) = some (.flat (.int .i64 (lastO out))) := fun h => by
    have := lastO_at h
    rw [show ((out.length : Int) - 1).toNat = out.length - 1 by omega]
    exact part_map1 (f := fun x => D.flat (.int .i64 x)) this
  have hle0 : out.length = 0 → lastO out = -1 := fun h => by rw [List.eq_nil_of_length_eq_zero h]; rfl
  by_cases hle : (valN (digs (s.drop f)) : Int) ≤ lastO out
  · rw [if_pos hle] at hR
    have hk0 : 0 < out.length := Nat.pos_of_ne_zero fun h => by have := hle0 h; omega
    exact retR hR (rr17_x (by rfl) s f _ _ _ _ hs hk hX _ hk0 (hla hk0) hle)
  rw [if_neg hle] at hR
  have h17 : ∀ cc : Code, selC [1, 1, 1, 1, 1, 2, 2, 2, 1, 1, 1, 1, 1, 0] code52 = some cc → DW Tryd.prog 118 cc (rpS s (f + (digs (s.drop f)).length) f (valN (digs (s.drop f))) out) (Nm 118 (rpS s (f + (digs (s.drop f)).length) f (valN (digs (s.drop f))) out)) := fun cc hc => by
    by_cases hk0 : 0 < out.length
    · exact rr17_a hc s f _ _ _ _ hs hk hX _ hk0 (hla hk0) hle
    · exact rr17_b hc s f _ _ _ _ hs hk hX (by omega)
  refine DW.seq ?_
  refine DW.cut _ (h17 _ (by rfl)) ?_
  have hY : mapI (out ++ [((valN (digs (s.drop f)) : Nat) : Int)]) = mapI out ++ [.flat (.int .i64 (valN (digs (s.drop f)) : Nat))] := by unfold mapI; rw [List.map_append]; rfl
  have hY2 : (out ++ [((valN (digs (s.drop f)) : Nat) : Int)]).length = out.length + 1 := by rw [List.length_append, List.length_singleton]
  have hpY : persL (mapI out ++ [.flat (.int .i64 (valN (digs (s.drop f)) : Nat))]) = true := by rw [← hY]; exact persL_map (fun _ => rfl) _
  rw [hra] at hR
  by_cases ha : f + (digs (s.drop f)).length < s.length
  · obtain ⟨c, hc⟩ : ∃ c, s[f + (digs (s.drop f)).length]? = some c := ⟨_, List.getElem?_eq_getElem ha⟩
    have hc' : s[((f + (digs (s.drop f)).length : Nat) : Int).toNat]? = some c := by rw [Int.toNat_natCast]; exact hc
    by_cases h32 : (c.toNat : Int) = 32
    · have hne : ¬ s.drop (f + (digs (s.drop f)).length) = [125] := fun e => by
        have := (drop_one'.1 e).2
        rw [hc, Option.some.injEq] at this
        rw [this] at h32
        exact absurd h32 (by decide)
      rw [if_neg hne, dif_pos (by rw [List.head?_drop, hc, is32.1 h32]), List.tail_drop] at hR
      refine (rr20_n (by rfl) s f _ _ _ _ hs hk hX ha c hc' h32 hpY).mono fun e s' ⟨q1, q2⟩ => .inr ⟨q1, f + (digs (s.drop f)).length + 1, out ++ [((valN (digs (s.drop f)) : Nat) : Int)], ?_, by omega, by omega, by rw [hY2]; omega, ?_⟩
      · rw [lastO_snoc]; exact hR
      · rw [hY, hY2]
        exact fun w0 M0 B0 a w h => sub_next1 _ _ _ _ _ _ hpY _ _ _ _ _ (q2 w0 M0 B0 a w h)
    · by_cases he : f + (digs (s.drop f)).length + 1 = s.length
      · by_cases h125 : (c.toNat : Int) = 125
        · rw [if_pos (drop_one'.2 ⟨he, by rw [hc, is125.1 h125]⟩)] at hR
          refine (rr22_e (by rfl) s f _ _ _ _ hs hk hX he c hc' h125 hpY).mono fun e s' q => .inl ?_
          rw [← hR]
          have eD : intsD (out ++ [((valN (digs (s.drop f)) : Nat) : Int)]) = .sl false 1 (out.length + 1) (mapI out ++ [.flat (.int .i64 (valN (digs (s.drop f)) : Nat))]) := by unfold intsD; rw [hY2]; exact congrArg _ hY
          rw [eD]
          exact q
        · rw [if_neg (fun e => h125 (by have := (drop_one'.1 e).2; rw [hc, Option.some.injEq] at this; rw [this]; rfl)), dif_neg (by rw [List.head?_drop, hc]; exact fun e => h32 (by rw [Option.some.inj e]; rfl))] at hR
          exact retR hR (rr24_c (by rfl) s f _ _ _ _ hs hk hX he c hc' h32 h125)
      · rw [if_neg (fun e => he (drop_one'.1 e).1), dif_neg (by rw [List.head?_drop, hc]; exact fun e => h32 (by rw [Option.some.inj e]; rfl))] at hR
        exact retR hR (rr24_b (by rfl) s f _ _ _ _ hs hk hX ha he c hc' h32)
  · rw [List.drop_eq_nil_of_le (by omega), if_neg (by simp), dif_neg (by simp)] at hR
    exact retR hR (rr24_a (by rfl) s f _ _ _ _ hs hk hX ha (by omega))
end Go.Proofs.YtgcmajgkcahbnaaDoor

set_option linter.unusedSimpArgs false
set_option linter.unusedVariables false
set_option maxHeartbeats 8000000
set_option maxRecDepth 8000
namespace Go.Proofs.YtgcmajgkcahbnaaDoor
open Go Go.RowKit Go.PP Go.Dm Go.Bs
abbrev rpI (s : List UInt8) (a : Nat) (out : List Int) : DS := ⟨[(0, strD s), (4, .own 17 out.length), (5, .flat (.int .i64 (a : Nat)))], [(17, some (.row 3 1 out.length (mapI out)))]⟩
theorem rp_s1 {cc : Code} (hsel : selC [1, 1, 1, 1, 1, 2, 2, 2, 0] code52 = some cc) (s : List UInt8) (a k : Nat) (X : List D) (hX : persL X = true) : DW Tryd.prog 118 cc ⟨[(0, strD s), (4, .own 17 k), (5, .flat (.int .i64 (a : Nat)))], [(17, some (.row 3 1 k X))]⟩ (Nm 118 ⟨[(0, strD s), (4, .own 17 k), (5, .flat (.int .i64 (a : Nat))), (6, .flat (.int .i64 (a : Nat)))], [(17, some (.row 3 1 k X))]⟩) := by
  refine DW.sel hsel (by rfl) ?_
  refine DW.walk ?_
  exact Nm.mk Sub.auto
theorem rp_s2 {cc : Code} (hsel : selC [1, 1, 1, 1, 1, 2, 2, 2, 1, 0] code52 = some cc) (s : List UInt8) (a k : Nat) (X : List D) (hX : persL X = true) : DW Tryd.prog 118 cc ⟨[(0, strD s), (4, .own 17 k), (5, .flat (.int .i64 (a : Nat))), (6, .flat (.int .i64 (a : Nat)))], [(17, some (.row 3 1 k X))]⟩ (Nm 118 ⟨[(0, strD s), (4, .own 17 k), (5, .flat (.int .i64 (a : Nat))), (6, .flat (.int .i64 (a : Nat))), (7, .flat (.int .i64 0))], [(17, some (.row 3 1 k X))]⟩) := by
  refine DW.sel hsel (by rfl) ?_
  refine DW.walk ?_
  exact Nm.mk Sub.auto
theorem rp_loop {cc : Code} (hsel : selC [1, 1, 1, 1, 1] code52 = some cc) (s : List UInt8) (hs : s.length ≤ 100000) (h1 : 1 ≤ s.length) (R : List Int × Int) (hR : parS (-1) [] (s.drop 1) = R) : DW Tryd.prog 118 cc (rpI s 1 []) (QF Tryd.prog Tryd.f52 (.tup [intsD R.1, .flat (.int .i64 R.2)])) := by
  refine DW.sel hsel (by rfl) ?_
  refine DW.block ?_
  refine DW.loop (fun x : Nat × List Int => rpI s x.1 x.2) (fun x => parS (lastO x.2) x.2 (s.drop x.1) = R ∧ x.1 ≤ s.length ∧ x.2.length ≤ x.1) (fun x => s.length - x.1) (1, []) ⟨hR, h1, Nat.zero_le _⟩ (Sub.refl _ _) ?_
  rintro ⟨f, out⟩ ⟨c1, c2, c3⟩
  have c1 : parS (lastO out) out (s.drop f) = R := c1
  have c2 : f ≤ s.length := c2
  have c3 : out.length ≤ f := c3
  have hX : persL (mapI out) = true := persL_map (fun _ => rfl) _
  refine DW.block ?_
  refine DW.seq ?_
  refine DW.cut _ (rp_s1 (by rfl) s f _ _ hX) ?_
  refine DW.seq ?_
  refine DW.cut _ (rp_s2 (by rfl) s f _ _ hX) ?_
  refine DW.seq ?_
  refine DW.cut _ (rp_digs (by rfl) s f out hs c2) ?_
  refine (rr_rest (by rfl) s f out hs c2 c3 R c1).mono ?_
  rintro e s' (⟨rfl, h⟩ | ⟨rfl, a, out2, q1, q2, q3, q4, q5⟩)
  · exact h
  · exact ⟨(a, out2), ⟨q1, q2, q4⟩, by show s.length - a < s.length - f; omega, q5⟩
theorem rparse_d (s : List UInt8) (hs : s.length ≤ 100000) : DFun Tryd.prog 52 [strD s] (.tup [intsD (parP s).1, .flat (.int .i64 (parP s).2)]) := by
  have o17 : OwnAt 17 := .of _
  cases hc : s with
  | nil =>
    have e : D.tup [intsD (parP []).1, .flat (.int .i64 (parP []).2)] = .tup [intsD [], .flat (.int .i64 3)] := rfl
    rw [e]
    refine DFun.enterA Tryd.func52 Tryd.ntmps52 ?_
    refine DW.walk ?_
    exact ⟨.inr rfl, ResOk.two [] rfl rfl rfl trivial (Vw.le (Vw.pers rfl) Le.full) (Vw.pers rfl)⟩
  | cons b t =>
    rw [← hc]
    have hb : s[((0 : Int)).toNat]? = some b := by rw [hc]; rfl
    have hl : s.length = t.length + 1 := by rw [hc]; rfl
    by_cases h1 : (b.toNat : Int) = 123
    · by_cases h2 : s = [123, 125]
      · have hp : parP s = ([], 0) := by unfold parP; rw [if_pos h2]
        rw [hp]
        have hc1 : s[((1 : Int)).toNat]? = some 125 := by rw [h2]; rfl
        have hl2 : s.length = 2 := by rw [h2]; rfl
        have h125 : ((125 : UInt8).toNat : Int) = 125 := rfl
        generalize (125 : UInt8) = c at *
        clear h2 hp hl hc
        refine DFun.enterA Tryd.func52 Tryd.ntmps52 ?_
        refine DW.walk ?_
        exact ⟨.inr rfl, ResOk.two [(17, some (.row 3 1 0 []))] rfl rfl rfl ⟨rfl, trivial⟩ (Vw.own (.head _) (VwL.pers rfl)) (Vw.pers rfl)⟩
      · have hR : parS (-1) [] (s.drop 1) = parP s := by
          unfold parP
          rw [if_neg h2, if_pos (by rw [hc, List.head?_cons, is123.1 h1]), List.drop_one]
        have lp := fun (cc : Code) (h : selC [1, 1, 1, 1, 1] code52 = some cc) => rp_loop h s hs (by omega) _ hR
        clear hR
        refine DFun.enterA Tryd.func52 Tryd.ntmps52 ?_
        refine DW.seq ?_
        refine DW.cut ⟨[(0, strD s)], []⟩ ?_ ?_
        · refine DW.walk ?_
          exact Nm.mk Sub.auto
        refine DW.seq ?_
        refine DW.cut ⟨[(0, strD s)], []⟩ ?_ ?_
        · clear lp h2
          refine DW.walk ?_
          exact Nm.mk Sub.auto
        refine DW.seq ?_
        refine DW.cut ⟨[(0, strD s), (4, .own 17 0)], [(17, some (.row 3 1 0 []))]⟩ ?_ ?_
        · clear lp h2
          refine DW.walk ?_
          exact Nm.mk Sub.auto
        refine DW.seq ?_
        refine DW.cut (rpI s 1 []) ?_ ?_
        · clear lp h2
          refine DW.walk ?_
          exact Nm.mk Sub.auto
        refine DW.seq ?_
        refine DW.cut (rpI s 1 []) ?_ (lp _ (by rfl))
        clear lp
        by_cases hl2 : s.length = 2
        · obtain ⟨c, hc1⟩ : ∃ c, s[((1 : Int)).toNat]? = some c := ⟨s[1]'(by omega), List.getElem?_eq_getElem (by omega)⟩
          have h125 : ¬ (c.toNat : Int) = 125 := fun h => h2 (by
            have hc2 : s[1]? = some c := hc1
            rw [hc] at hc2 hl2 ⊢
            cases t with
            | nil => simp at hl2
            | cons y u =>
              cases u with
              | nil =>
                rw [List.getElem?_cons_succ, List.getElem?_cons_zero, Option.some.injEq] at hc2
                rw [is123.1 h1, hc2, is125.1 h]
              | cons _ _ => simp at hl2)
          clear h2
          refine DW.walk ?_
          exact Nm.mk Sub.auto
        · clear h2
          refine DW.walk ?_
          exact Nm.mk Sub.auto
    · have hp : parP s = ([], 3) := by
        unfold parP
        rw [if_neg (fun e => h1 (by rw [hc] at e; rw [(List.cons.inj e).1]; rfl)), if_neg (fun e => h1 (by rw [hc, List.head?_cons, Option.some.injEq] at e; rw [e]; rfl))]
      rw [hp]
      clear hp hc
      refine DFun.enterA Tryd.func52 Tryd.ntmps52 ?_
      refine DW.walk ?_
      exact ⟨.inr rfl, ResOk.two [] rfl rfl rfl trivial (Vw.le (Vw.pers rfl) Le.full) (Vw.pers rfl)⟩
end Go.Proofs.YtgcmajgkcahbnaaDoor
