/- PartitionSplit returns true. Condition: the pairs read as a list of pairs, the marks as a list of ints. -/
import Derived.Test.YtojfpobgncapjaaWw
set_option linter.unusedSimpArgs false
set_option linter.unusedVariables false
set_option maxHeartbeats 400000
namespace Go.Proofs.Ytojfpobgncapjaa
open Go Go.RowKit Go.PP

section
variable {w0 w : World} {L : List PE} {I : List (Value × List Int)}

theorem split_all_no (h : All w0 L I w) (i k : Nat) {x : PE} {vm : Value} {V : List Int} (hi : L[i]? = some x) (hk : I[k]? = some (vm, V)) (hwf : ∀ (i : Nat) x, V[i]? = some x → (Lit.int .i64 x).wf = true) (hl : V.length ≠ x.n) :
    Calls Try.prog 29 #[.pointer (some ⟨x.p, 0, none⟩), vm] w fun e w' => e = .returned (.int .i64 1) ∧ All w0 L I w' := by
  refine (split_any (MU L) vm V w x.p x.u x.n x.R (h.get hi) (h.ints _ (List.mem_of_getElem? hk)) ⟨x, List.mem_of_getElem? hi, .inl rfl⟩ hwf).mono ?_
  rintro e w' (⟨_, rfl, hm⟩ | ⟨h1, _⟩)
  · exact ⟨rfl, h.quiet hm⟩
  · exact absurd h1 hl

theorem split_all (h : All w0 L I w) (i k : Nat) {x : PE} {vm : Value} {V : List Int} (hi : L[i]? = some x) (hk : I[k]? = some (vm, V)) (hwf : ∀ (i : Nat) x, V[i]? = some x → (Lit.int .i64 x).wf = true) (hl : V.length = x.n) :
    Calls Try.prog 29 #[.pointer (some ⟨x.p, 0, none⟩), vm] w fun e w' => ∃ v out, e = .returned (.int .i64 0) ∧ IsBy x.R V x.n out ∧ All w0 (L.set i ⟨x.p, v, x.n, out⟩) I w' := by
  have hx := List.mem_of_getElem? hi
  refine (split_any (MU L) vm V w x.p x.u x.n x.R (h.get hi) (h.ints _ (List.mem_of_getElem? hk)) ⟨x, hx, .inl rfl⟩ hwf).mono ?_
  rintro e w' (⟨h1, _⟩ | ⟨_, v, out, rfl, hv, hby, hP, hm⟩)
  · exact absurd hl h1
  have hlt : i < L.length := (List.getElem?_eq_some_iff.1 hi).1
  have key : ∀ j c, (L.set i ⟨x.p, v, x.n, out⟩)[j]? = some c → (j = i ∧ c = ⟨x.p, v, x.n, out⟩) ∨ (j ≠ i ∧ L[j]? = some c) := by
    intro j c hc
    by_cases e : i = j
    · subst e; rw [List.getElem?_set_self hlt] at hc; exact .inl ⟨rfl, (Option.some.inj hc).symm⟩
    · rw [List.getElem?_set_ne e] at hc; exact .inr ⟨fun e' => e e'.symm, hc⟩
  have old : ∀ j c, j ≠ i → L[j]? = some c → Apart' c ⟨x.p, v, x.n, out⟩ := fun j c hj hc => by
    have ha := h.apart j i c x hj hc hi
    have h1 := (h.get hc).plt
    have h2 := (h.get hc).ult
    exact ⟨⟨by show c.p ≠ v; omega, ha.b, by show c.u ≠ v; omega⟩, ha.d⟩
  refine ⟨v, out, rfl, hby, ⟨fun y hy => ?_, fun y hy => ?_, fun a b c d hab hc hd => ?_, fun y hy => ?_, h.mu.trans' hm (fun b hb e => by have := h.new x hx; omega)⟩⟩
  · obtain ⟨j, hj⟩ := List.getElem?_of_mem hy
    rcases key j y hj with ⟨_, rfl⟩ | ⟨h1, h2⟩
    · exact hP
    · have ha := h.apart j i y x h1 h2 hi
      exact (h.get h2).mut hm (fun e => by rcases e with e | e; exact ha.a e; exact ha.d e) (fun e => by rcases e with e | e; exact ha.c e; exact ha.b e.symm)
  · obtain ⟨j, hj⟩ := List.getElem?_of_mem hy
    rcases key j y hj with ⟨_, rfl⟩ | ⟨h1, h2⟩
    · exact ⟨(h.new x hx).1, Nat.le_trans h.mu.size hv⟩
    · exact h.new y (List.mem_of_getElem? h2)
  · rcases key a c hc with ⟨h1, rfl⟩ | ⟨h1, h2⟩
    · rcases key b d hd with ⟨h3, rfl⟩ | ⟨h3, h4⟩
      · omega
      · exact (old b d h3 h4).symm
    · rcases key b d hd with ⟨h3, rfl⟩ | ⟨h3, h4⟩
      · exact old a c h1 h2
      · exact h.apart a b c d hab h2 h4
  · have h1 : Ints (fun b => MU L b ∨ b = v) w y.1 y.2 := (h.ints y hy).mono fun b hb e => by
      rcases e with e | e
      · exact e
      · omega
    refine (h1.mut hm (fun b _ e => .inl ⟨x, hx, e⟩)).mono ?_
    rintro b - ⟨z, hz, hzb⟩
    obtain ⟨j, hj⟩ := List.getElem?_of_mem hz
    rcases key j z hj with ⟨_, rfl⟩ | ⟨h3, h4⟩
    · rcases hzb with e | e
      · exact .inr e
      · exact .inl ⟨x, hx, .inr e⟩
    · exact .inl ⟨z, List.mem_of_getElem? h4, hzb⟩
end

/-! ### plain laws -/
theorem refB_self {n : Nat} {R : List Int} (h : GoodR n R) : refB n R R = true := by
  unfold refB
  rw [decide_eq_true_eq]
  intro i hi
  obtain ⟨r, h1, h2, h3, _⟩ := h.at hi
  rw [h2]; simp only [Int.toNat_natCast]; exact h3.symm

theorem refB_by {n : Nat} {R V out : List Int} (h : IsBy R V n out) : refB n out R = true := by
  unfold refB
  rw [decide_eq_true_eq]
  intro i hi
  obtain ⟨k, h1, h2⟩ := h.2 i hi
  rw [getD_of h1]
  simp [List.getD, h2.2.1]

theorem refB_by2 {n : Nat} {R V out : List Int} (h : IsBy R V n out) : refB n out V = true := by
  unfold refB
  rw [decide_eq_true_eq]
  intro i hi
  obtain ⟨k, h1, h2⟩ := h.2 i hi
  rw [getD_of h1]
  simp [List.getD, h2.2.2.1]

theorem All.slice {w0 w : World} {L : List PE} {I : List (Value × List Int)} (h : All w0 L I w) (k : Nat) {v : Value} {xs : List Int} (hk : I[k]? = some (v, xs)) : ∃ a c, v = .slice a xs.length c := by
  obtain ⟨a, c, h1, _⟩ := (h.ints _ (List.mem_of_getElem? hk)).open
  exact ⟨a, c, h1⟩

theorem All.begin (w : World) (vm : Value) (zs : List Int) (h : Ints (fun _ => False) w vm zs) : All w [] [(vm, zs)] w :=
  (All.start w).addI vm zs (h.mono fun b _ e => by obtain ⟨x, hx, _⟩ := e; simp at hx)

/-! ### the law -/
theorem split_no (n : Int) (vp vm : Value) (w : World) (h : n < 0 ∨ 40 < n) : Calls Try.prog 7 #[.int .i64 n, vp, vm] w (TruePost w) := by
  go_enter Try.func7, Try.ntmps7
  go_wp2_with fail
  refine (made_no n vp w h).mono ?_
  rintro e w1 ⟨rfl, hm⟩
  replace hm := Lib.hid hm
  clear h
  go_wp2_with fail
  refine (known_any w1).mono ?_
  rintro e w2 ⟨rfl, hm2⟩
  replace hm := Lib.hid (hm.out.trans hm2)
  clear hm2
  go_wp2
  go_ret
  exact ⟨rfl, hm.out⟩

set_option maxRecDepth 8000 in
set_option maxHeartbeats 4000000 in
theorem split_long (n : Nat) (vp vm : Value) (ps : List (Int × Int)) (zs : List Int) (w : World) (hn : n ≤ 40) (hp : Pairs w vp ps) (hz : Ints (fun _ => False) w vm zs) (hl : 100 < zs.length) :
    Calls Try.prog 7 #[.int .i64 n, vp, vm] w (TruePost w) := by
  have hA := Lib.hid (All.begin w vm zs hz)
  obtain ⟨za, zc, rfl, hzl, -⟩ := hz.open
  have hd : decide ((100 : Int) < (zs.length : Int)) = true := by simp; omega
  clear hz
  go_enter Try.func7, Try.ntmps7
  go_wp2_with fail
  refine (made_all hA.out hn hp).mono ?_
  rintro e w1 ⟨p, u, v, rfl, hA1, _⟩
  replace hA1 := Lib.hid hA1
  obtain ⟨va, vc, rfl⟩ := hA1.out.slice 1 rfl
  clear hA
  go_wp2_with fail
  refine (known_all hA1.out).mono ?_
  rintro e w2 ⟨rfl, hA2⟩
  have hE := Lib.hid hA2.mu
  clear hA1 hA2
  go_wp2
  go_ret
  exact ⟨rfl, hE.out⟩

set_option maxRecDepth 8000 in
set_option maxHeartbeats 4000000 in
theorem split_ne (n : Nat) (vp vm : Value) (ps : List (Int × Int)) (zs : List Int) (w : World) (hn : n ≤ 40) (hp : Pairs w vp ps) (hz : Ints (fun _ => False) w vm zs) (hl : zs.length ≤ 100) (hwf : ∀ (i : Nat) x, zs[i]? = some x → (Lit.int .i64 x).wf = true) (hne : zs.length ≠ n) :
    Calls Try.prog 7 #[.int .i64 n, vp, vm] w (TruePost w) := by
  have hA := Lib.hid (All.begin w vm zs hz)
  obtain ⟨za, zc, rfl, hzl, -⟩ := hz.open
  have hd : decide ((100 : Int) < (zs.length : Int)) = false := by simp; omega
  have hg := GoodR.fold (n := n) ps (min ps.length 60)
  clear hz
  replace hwf := Lib.hid hwf
  go_enter Try.func7, Try.ntmps7
  go_wp2_with fail
  refine (made_all hA.out hn hp).mono ?_
  rintro e w1 ⟨p, u, v, rfl, hA1, _⟩
  generalize foldP n ps (min ps.length 60) = R at *
  replace hA1 := Lib.hid hA1
  obtain ⟨va, vc, rfl⟩ := hA1.out.slice 1 rfl
  have hlen := hg.len
  rw [hlen] at hA1 ⊢
  have hnq : ((zs.length : Int) != (n : Int)) = true := by simp; omega
  replace hg := Lib.hid hg
  clear hA hlen
  go_wp2_with fail
  refine (clone_all hA1.out 0 rfl).mono ?_
  rintro e w2 ⟨q, s, rfl, hA2⟩
  replace hA2 := Lib.hid hA2
  clear hA1
  go_wp2_with fail
  refine (split_all_no hA2.out 0 0 rfl rfl hwf.out hne).mono ?_
  rintro e w3 ⟨rfl, hA3⟩
  replace hA3 := Lib.hid hA3
  clear hA2
  go_wp2_with fail
  refine (equal_all hA3.out 0 1 rfl rfl (by decide) rfl).mono ?_
  simp only [refB_self hg.out, Bool.and_self]
  rintro e w4 ⟨rfl, hA4⟩
  replace hA4 := Lib.hid hA4
  clear hA3
  go_wp2_with fail
  refine (known_all hA4.out).mono ?_
  rintro e w5 ⟨rfl, hA5⟩
  have hE := Lib.hid hA5.mu
  clear hA4 hA5
  go_wp2
  go_ret
  exact ⟨rfl, hE.out⟩

set_option maxRecDepth 8000 in
set_option maxHeartbeats 4000000 in
theorem split_eq (n : Nat) (vp vm : Value) (ps : List (Int × Int)) (zs : List Int) (w : World) (hn : n ≤ 40) (hp : Pairs w vp ps) (hz : Ints (fun _ => False) w vm zs) (hwf : ∀ (i : Nat) x, zs[i]? = some x → (Lit.int .i64 x).wf = true) (hne : zs.length = n) :
    Calls Try.prog 7 #[.int .i64 n, vp, vm] w (TruePost w) := by
  have hA := Lib.hid (All.begin w vm zs hz)
  obtain ⟨za, zc, rfl, hzl, -⟩ := hz.open
  have hd : decide ((100 : Int) < (n : Int)) = false := by simp; omega
  have hg := GoodR.fold (n := n) ps (min ps.length 60)
  rw [hne] at hA hzl ⊢
  replace hne := Lib.hid hne
  clear hz
  replace hwf := Lib.hid hwf
  go_enter Try.func7, Try.ntmps7
  go_wp2_with fail
  refine (made_all hA.out hn hp).mono ?_
  rintro e w1 ⟨p, u, v, rfl, hA1, _⟩
  generalize foldP n ps (min ps.length 60) = R at *
  replace hA1 := Lib.hid hA1
  obtain ⟨va, vc, rfl⟩ := hA1.out.slice 1 rfl
  have hlen := hg.len
  rw [hlen] at hA1 ⊢
  have hnq : ((n : Int) != (n : Int)) = false := by simp
  replace hg := Lib.hid hg
  replace hlen := Lib.hid hg.out.len
  clear hA
  go_wp2_with fail
  refine (clone_all hA1.out 0 rfl).mono ?_
  rintro e w2 ⟨q, s, rfl, hA2⟩
  replace hA2 := Lib.hid hA2
  clear hA1
  go_wp2_with fail
  refine (split_all hA2.out 0 0 rfl rfl hwf.out hne.out).mono ?_
  rintro e w3 ⟨v', out, rfl, hby, hA3⟩
  replace hA3 := Lib.hid hA3
  replace hby := Lib.hid hby
  clear hA2
  go_wp2_with fail
  refine (rsplit_all hA3.out 1 0 rfl rfl (by rw [hlen.out]; omega) (by rw [hlen.out, hne.out])).mono ?_
  rw [hlen.out]
  rintro e w4 ⟨v4, out', rfl, hby', hA4⟩
  obtain rfl := hby.out.unique hby'
  replace hA4 := Lib.hid hA4
  obtain ⟨xa, xc, rfl⟩ := hA4.out.slice 2 rfl
  clear hA3
  go_wp2_with fail
  refine (same_all hA4.out 0 2 rfl rfl).mono ?_
  rintro e w5 ⟨rfl, hA5⟩
  replace hA5 := Lib.hid hA5
  clear hA4
  go_wp2_with fail
  refine (refines_all hA5.out 0 1 rfl rfl (by decide) rfl).mono ?_
  rw [refB_by hby.out]
  rintro e w6 ⟨rfl, hA6⟩
  replace hA6 := Lib.hid hA6
  clear hA5
  go_wp2_with fail
  refine (same_all hA6.out 1 1 rfl rfl).mono ?_
  rintro e w7 ⟨rfl, hA7⟩
  replace hA7 := Lib.hid hA7
  clear hA6
  go_wp2_with fail
  refine (known_all hA7.out).mono ?_
  rintro e w8 ⟨rfl, hA8⟩
  have hE := Lib.hid hA8.mu
  clear hA7 hA8
  go_wp2
  go_ret
  exact ⟨rfl, hE.out⟩

theorem split_walk (n : Int) (vp vm : Value) (ps : List (Int × Int)) (zs : List Int) (w : World) (hp : Pairs w vp ps) (hz : Ints (fun _ => False) w vm zs) (hwf : ∀ (i : Nat) x, zs[i]? = some x → (Lit.int .i64 x).wf = true) :
    Calls Try.prog 7 #[.int .i64 n, vp, vm] w fun e w' => e = .returned (.bool true) ∧ Below w.heap.size w w' := by
  have key : Calls Try.prog 7 #[.int .i64 n, vp, vm] w (TruePost w) := by
    by_cases hn : n < 0 ∨ 40 < n
    · exact split_no n vp vm w hn
    · obtain ⟨k, rfl⟩ := Int.eq_ofNat_of_zero_le (show 0 ≤ n by omega)
      have hk : k ≤ 40 := by omega
      by_cases h1 : 100 < zs.length
      · exact split_long k vp vm ps zs w hk hp hz h1
      · by_cases h2 : zs.length = k
        · exact split_eq k vp vm ps zs w hk hp hz hwf h2
        · exact split_ne k vp vm ps zs w hk hp hz (by omega) hwf h2
  exact key.mono fun e w' h => ⟨h.1, h.2.below⟩
end Go.Proofs.Ytojfpobgncapjaa
