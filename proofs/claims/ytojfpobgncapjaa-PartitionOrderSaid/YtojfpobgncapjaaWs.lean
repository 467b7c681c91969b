/- PartitionOrder returns true. Condition: the pairs read as a list of pairs, the number is a byte. -/
import Derived.Test.YtojfpobgncapjaaLa
set_option linter.unusedSimpArgs false
set_option linter.unusedVariables false
set_option maxHeartbeats 400000
namespace Go.Proofs.Ytojfpobgncapjaa
open Go Go.RowKit Go.PP

theorem order_no (n : Int) (vp : Value) (f : Value) (w : World) (h : n < 0 ∨ 40 < n) : Calls Try.prog 5 #[.int .i64 n, vp, f] w (TruePost w) := by
  go_enter Try.func5, Try.ntmps5
  go_wp2_with fail
  refine (made_no n vp w h).mono ?_
  rintro e w1 ⟨rfl, hm⟩
  replace hm := Lib.hid hm
  clear h
  go_wp2_with fail
  refine (known_any w1).mono ?_
  rintro e w2 ⟨rfl, hm2⟩
  replace hm := Lib.hid (hm.out.trans hm2)
  clear hm2
  go_wp2
  go_ret
  exact ⟨rfl, hm.out⟩

set_option maxRecDepth 8000 in
set_option maxHeartbeats 8000000 in
theorem order_small (n : Nat) (vp : Value) (ps : List (Int × Int)) (f : Nat) (w : World) (hn : n ≤ 40) (hp : Pairs w vp ps) (hf : f ≤ 255) : Calls Try.prog 5 #[.int .i64 n, vp, .int .u8 f] w (TruePost w) := by
  have hp0 := Lib.hid hp
  obtain ⟨a, c, rfl, hpl, -⟩ := hp
  go_enter Try.func5, Try.ntmps5
  go_wp2_with fail
  refine (made_any n _ ps w hn hp0.out).mono ?_
  rintro e w1 ⟨p, u, v, rfl, hpp, huu, hP, hv, hm⟩
  have hlen := hP.len
  have hv0 := Lib.hid hv
  obtain ⟨oa, oc, rfl, -, -⟩ := hv.open
  clear hv
  have hpu := hP.plt
  have huu2 := hP.ult
  replace hP := Lib.hid hP
  replace hm := Lib.hid hm
  go_wp2_with fail
  refine (new_any n _ (by omega)).mono ?_
  rintro e w2 ⟨q, v, rfl, hqq, hvv, hQ, hm2⟩
  have hA := Lib.hid (Apart.mk (p := p) (u := u) (q := q) (v := v) (by omega) (by omega) (by omega))
  have hB := Lib.hid (Both.refl (hP.out.mut hm2 (by simp) (by simp)) hQ)
  have hszw := hm.out.size
  have hM := Lib.hid (hm.out.trans hm2)
  clear hP hQ hm hm2 hv0
  have hne1 : ps.length ≤ 60 ∨ 60 < ps.length := by omega
  generalize hR : foldP n ps (min ps.length 60) = R at *
  have hR' := Lib.hid hR
  clear hR
  replace hlen := Lib.hid hlen
  go_wp2
  case' inl => obtain ⟨K, hK, hK60, hKl, hKm⟩ : ∃ K : Nat, (60 : Int) = (K : Int) ∧ K ≤ 60 ∧ K ≤ ps.length ∧ min ps.length 60 = K := ⟨60, rfl, by omega, by omega, by omega⟩
  case' inr => obtain ⟨K, hK, hK60, hKl, hKm⟩ : ∃ K : Nat, (ps.length : Int) = (K : Int) ∧ K ≤ 60 ∧ K ≤ ps.length ∧ min ps.length 60 = K := ⟨ps.length, rfl, by omega, by omega, by omega⟩
  all_goals
    clear hne1 h
    rw [hKm] at hR'
    replace hKm := Lib.hid hKm
    rw [hK]
    clear hK
    have hB0 := Lib.hid (And.intro (heads_iota n n (Nat.le_refl _)) (And.intro hB.out hM.out))
    clear hB hM
    go_loopw [12, 13] (fun j i wr => ∃ k J : Nat, k ≤ K ∧ i = .int .i64 k ∧ j = .int .i64 J ∧ J + (heads (foldP n (turned ps f K) k) n).length = n ∧ Both wr p u n R q v n (foldP n (turned ps f K) k) wr ∧ Mut (fun _ => False) w wr) (fun _ i _ => K - (intOf i).toNat)
    case atStart => exact ⟨0, 0, by omega, rfl, rfl, by rw [Nat.zero_add]; exact hB0.out.1, hB0.out.2.1, hB0.out.2.2⟩
    case round =>
      obtain ⟨k, J, hk, rfl, rfl, hJ, hB, hm⟩ := hrel
      clear hB0
      by_cases hlt : k < K
      · have hidx : (f + K - 1 - k) % K < K := Nat.mod_lt _ (by omega)
        obtain ⟨b, off, x, y, rfl, hps, hcx, hcy⟩ := Pairs.slot hp0.out hm (k := (f + K - 1 - k) % K) (by omega)
        have hJn : J ≤ n := by omega
        replace hB := Lib.hid hB
        replace hm := Lib.hid hm
        replace hJ := Lib.hid hJ
        replace hps := Lib.hid hps
        have hie : ((f : Int) + (K : Int) - 1 - (k : Int)) = ((f + K - 1 - k : Nat) : Int) := by omega
        have hstep : foldP n (turned ps f K) (k + 1) = stepPair n (foldP n (turned ps f K) k) y x := by simp [foldP, turned_at hlt hps.out]
        have hg := GoodR.fold (n := n) (turned ps f K) k
        generalize foldP n (turned ps f K) k = V at *
        replace hstep := Lib.hid hstep
        have hB2 := Lib.hid (show Both wr p u n R q v n V (wr.alloc (Obj.cells #[Value.int IntKind.i64 x, Value.int IntKind.i64 y] 42)) from
          ⟨hB.out.l.mut ((Mut.refl (fun _ => False) wr).alloc _) (by simp) (by simp), hB.out.r.mut ((Mut.refl (fun _ => False) wr).alloc _) (by simp) (by simp), (Mut.refl _ wr).alloc _⟩)
        have hm2 := Lib.hid (hm.out.alloc (Obj.cells #[Value.int IntKind.i64 x, Value.int IntKind.i64 y] 42))
        clear hB hm
        replace hg := Lib.hid hg
        go_wp2_with fail
        refine (union_any y x _ q v n V hB2.out.r).mono ?_
        rintro e w3 (⟨ht, a1, b1, h1, h2, rfl, hQ3, hm3⟩ | ⟨ht, rfl, rfl⟩)
        · have hB3 := Lib.hid (Both.mk (hB2.out.l.mut hm3 hA.out.a hA.out.c) hQ3 (Mut.refl _ w3))
          have hm4 := Lib.hid (hm2.out.trans' hm3 (fun i hi e => by omega))
          have hst := stepPair_there hg.out (by simpa using (Bool.and_eq_true _ _ ▸ ht).1) (by simpa using (Bool.and_eq_true _ _ ▸ ht).2)
          obtain ⟨i', j', a', b', rfl, rfl, hi', hj', hx, hy, hxx, hyy, he⟩ := hst
          simp only [Int.toNat_natCast] at h1 h2
          rw [hx] at h1
          rw [hy] at h2
          obtain rfl : a' = a1 := some_nat_inj h1
          obtain rfl : b' = b1 := some_nat_inj h2
          rw [← he] at hB3
          rw [← hstep.out] at hB3
          have hlV := hg.out.len
          have hh := heads_step hg.out hxx hyy (by have := (List.getElem?_eq_some_iff.1 hxx).1; omega) (by have := (List.getElem?_eq_some_iff.1 hyy).1; omega)
          rw [← he, ← hstep.out] at hh
          clear hx hy hxx hyy he h1 h2 hQ3 hm3 hm2 hB2 ht hlV
          cases hd : ((a' : Int) != (b' : Int)) with
          | true =>
            rw [hd, if_pos rfl] at hh
            replace hh := Lib.hid hh
            have hd' := Lib.hid hd
            clear hd
            go_wp2
            go_roundw
            case rel => exact ⟨k + 1, J + 1, by omega, by go_num, by go_num, by have := hh.out; have := hJ.out; omega, hB3.out, hm4.out⟩
            case measure => simp [intOf]; omega
          | false =>
            rw [hd, if_neg (by simp)] at hh
            replace hh := Lib.hid hh
            have hd' := Lib.hid hd
            clear hd
            go_wp2
            go_roundw
            case rel => exact ⟨k + 1, J, by omega, by go_num, rfl, by have := hh.out; have := hJ.out; omega, hB3.out, hm4.out⟩
            case measure => simp [intOf]; omega
        · have hst := stepPair_not (R := V) ht
          rw [← hstep.out] at hst
          replace hst := Lib.hid hst
          clear ht
          go_wp2
          go_roundw
          case rel => exact ⟨k + 1, J, by omega, by go_num, rfl, by rw [hst.out]; exact hJ.out, by rw [hst.out]; exact ⟨hB2.out.l, hB2.out.r, Mut.refl _ _⟩, hm2.out⟩
          case measure => simp [intOf]; omega
      · obtain rfl : k = K := by omega
        have hJn : J ≤ n := by omega
        have hE1 := Lib.hid (show (refB n (foldP n (turned ps f k) k) R && refB n R (foldP n (turned ps f k) k)) = true by rw [← hR'.out, turned_ref ps f k hKl, turned_ref' ps f k hKl]; rfl)
        have hE2 := Lib.hid (show (refB n R (foldP n (turned ps f k) k) && refB n (foldP n (turned ps f k) k) R) = true by rw [← hR'.out, turned_ref ps f k hKl, turned_ref' ps f k hKl]; rfl)
        generalize foldP n (turned ps f k) k = V at *
        replace hB := Lib.hid hB
        replace hm := Lib.hid hm
        have hMF : ∀ (a b : World), Mut (fun _ => False) w a → Mut (Two u v) a b → Mut (fun _ => False) w b := fun a b h1 h2 => h1.trans' h2 (fun i hi e => by rcases e with e | e <;> omega)
        replace hMF := Lib.hid hMF
        have hrl := rowsTo_len V n
        have heq : ((rowsTo V n).length : Int) = (n : Int) - (J : Int) := by rw [hrl]; omega
        have hq1 : (((rowsTo V n).length : Int) == (n : Int) - (J : Int)) = true := by rw [heq]; simp
        replace hrl := Lib.hid hrl
        have heq' := Lib.hid heq
        clear heq
        clear hp0 hJ hrl
        go_wp2_with fail
        refine (equal_any _ q v n V p u R hB.out.r hB.out.l hA.out.symm).mono ?_
        rw [hE1.out]
        rintro e w3 ⟨rfl, hB3⟩
        have hm3 := Lib.hid (hMF.out _ _ hm.out (hB3.mu.mono fun _ _ e => e.symm))
        replace hB3 := Lib.hid hB3
        clear hB hm
        go_wp2_with fail
        refine (equal_any _ p u n R q v V hB3.out.r hB3.out.l hA.out).mono ?_
        rw [hE2.out]
        rintro e w4 ⟨rfl, hB4⟩
        have hm4 := Lib.hid (hMF.out _ _ hm3.out hB4.mu)
        replace hB4 := Lib.hid hB4
        clear hB3 hm3
        go_wp2_with fail
        refine (numblocks_any _ q v n V hB4.out.r).mono ?_
        rintro e w5 ⟨rfl, -, hm5⟩
        have hm5' := Lib.hid (hMF.out _ _ hm4.out (hm5.mono fun _ _ e => .inr e))
        clear hB4 hm5 hm4
        go_wp2_with fail
        refine (known_any _).mono ?_
        rintro e w8 ⟨rfl, hm8⟩
        have hE := Lib.hid (hm5'.out.trans hm8)
        clear hm8 hm5'
        go_wp2
        go_ret
        exact ⟨rfl, hE.out⟩

theorem order_walk (n : Int) (vp : Value) (ps : List (Int × Int)) (f : Nat) (w : World) (hp : Pairs w vp ps) (hf : f ≤ 255) :
    Calls Try.prog 5 #[.int .i64 n, vp, .int .u8 f] w fun e w' => e = .returned (.bool true) ∧ Below w.heap.size w w' := by
  have key : Calls Try.prog 5 #[.int .i64 n, vp, .int .u8 f] w (TruePost w) := by
    by_cases hn : n < 0 ∨ 40 < n
    · exact order_no n vp _ w hn
    · obtain ⟨k, rfl⟩ := Int.eq_ofNat_of_zero_le (show 0 ≤ n by omega)
      exact order_small k vp ps f w (by omega) hp hf
  exact key.mono fun e w' h => ⟨h.1, h.2.below⟩
end Go.Proofs.Ytojfpobgncapjaa
