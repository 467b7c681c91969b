/- Contracts over data, memory lent: a copy; all lists; what is found. No condition. -/
import Derived.Test.YtdakoccbmeojhaaNi
set_option linter.unusedSimpArgs false
set_option linter.unusedVariables false
set_option maxHeartbeats 1000000
set_option maxRecDepth 8000
namespace Go.Proofs.Ytdakoccbmeojhaa
open Go Go.RowKit Go.PP Go.Dm

theorem oneL_ints (l : List Int) : oneL (l.map fun x => D.flat (.int .i64 x)) = true := oneL_map (fun _ => rfl) _
/-- slices.Clone gives a row of the caller's own. -/
theorem clone_d (id : Nat) (hid : id = 23 ∨ id = 20) (l : List Int) (hl : l.length ≤ 1000000) :
    DLend Try.prog 61 [intsD l] [(id, none)] [(id, some (.row 3 1 l.length (l.map fun x => .flat (.int .i64 x))))] (.own id l.length) := by
  have h5 := IdAt.of 5 id
  have ho := oneL_ints l
  unfold intsD
  by_cases h0 : l = []
  · subst h0
    rcases hid with rfl | rfl
    all_goals
      refine DLend.enterA Try.func61 Try.ntmps61 ?_
      refine DW.adj ?_
      refine DW.flatten 0 rfl ?_
      intro a cap
      cases a with
      | none =>
        refine DW.walk ?_
        exact ⟨_, Sub.adoptA h5 2 3 1, .inr rfl, ResL.oneA⟩
      | some a =>
        refine DW.walk ?_
        exact ⟨_, Sub.refl _ _, .inr rfl, ResL.oneA⟩
  · have : 0 < l.length := List.length_pos_iff.2 h0
    rcases hid with rfl | rfl
    all_goals
      refine DLend.enterA Try.func61 Try.ntmps61 ?_
      refine DW.walk ?_
      exact ⟨.inr rfl, ResL.oneA⟩
/-- The same of a row that is lent. -/
theorem cloneO_d (l : List Int) (hl : l.length ≤ 1000000) :
    DLend Try.prog 61 [.own 54526080000006 l.length] [(20, none), (54526080000006, some (.row 3 1 l.length (l.map fun x => .flat (.int .i64 x))))] [(20, some (.row 3 1 l.length (l.map fun x => .flat (.int .i64 x)))), (54526080000006, some (.row 3 1 l.length (l.map fun x => .flat (.int .i64 x))))] (.own 20 l.length) := by
  have h5 := IdAt.of 5 20
  have ho := oneL_ints l
  by_cases h0 : l = []
  · subst h0
    refine DLend.enterA Try.func61 Try.ntmps61 ?_
    refine DW.adj ?_
    refine DW.flattenO 0 rfl ?_
    intro a cap
    cases a with
    | none =>
      refine DW.walk ?_
      exact ⟨_, Sub.adoptA h5 2 3 1, .inr rfl, ResL.oneA⟩
    | some a =>
      refine DW.walk ?_
      exact ⟨_, Sub.refl _ _, .inr rfl, ResL.oneA⟩
  · have : 0 < l.length := List.length_pos_iff.2 h0
    refine DLend.enterA Try.func61 Try.ntmps61 ?_
    refine DW.walk ?_
    exact ⟨.inr rfl, ResL.oneA⟩
end Go.Proofs.Ytdakoccbmeojhaa
/- Contracts over data, memory lent: all lists. No condition. -/
set_option linter.unusedSimpArgs false
set_option linter.unusedVariables false
set_option maxHeartbeats 1000000
set_option maxRecDepth 8000
namespace Go.Proofs.Ytdakoccbmeojhaa
open Go Go.RowKit Go.PP Go.Dm

def enumL (of : List Int) : Nat → List Int → List (List Int)
  | 0, l => [l]
  | m + 1, l => of.flatMap fun s => enumL of m (l ++ [s])
/-- What has been found when these lists are gone through. -/
def addAll (A : Au) (s : Int) (ls : List (List Int)) (out : List Int) : List Int := ls.foldl (stepAdd A s) out
structure OutOk (A : Au) (out : List Int) : Prop where
  rng : ∀ x ∈ out, 0 ≤ x ∧ x < (A.final.length : Int)
  nd : out.Nodup
theorem OutOk.len {A : Au} {out : List Int} (h : OutOk A out) : out.length ≤ A.final.length := pigeon_few _ _ h.nd h.rng
theorem OutOk.nil (A : Au) : OutOk A [] := ⟨by simp, by simp⟩
theorem OutOk.step {A : Au} (hok : AuOk A) {s : Int} {l out : List Int} (hf : Fits A s l) (h : OutOk A out) : OutOk A (stepAdd A s out l) := by
  unfold stepAdd
  split
  · exact h
  · rename_i hn
    refine ⟨fun x hx => ?_, List.nodup_append.2 ⟨h.nd, by simp, fun a ha b hb => by simp at hb; subst hb; intro e; subst e; exact hn ha⟩⟩
    rcases List.mem_append.1 hx with hx | hx
    · exact h.rng x hx
    · simp at hx; subst hx; exact atE_bd hok hf
theorem enumL_fits {A : Au} {s : Int} {of : List Int} (hs0 : 0 ≤ s) (hs1 : s < A.ranks.length) (hof : ∀ x ∈ of, 0 ≤ x ∧ x < (A.final.length : Int)) : ∀ (m : Nat) (l : List Int), ((l.length + m : Nat) : Int) = A.ranks.getD s.toNat 0 → (∀ x ∈ l, 0 ≤ x ∧ x < (A.final.length : Int)) → ∀ x ∈ enumL of m l, Fits A s x
  | 0, l, hl, hr, x, hx => by
    simp only [enumL, List.mem_singleton] at hx
    subst hx
    exact ⟨hs0, hs1, by simpa using hl, hr⟩
  | m + 1, l, hl, hr, x, hx => by
    simp only [enumL, List.mem_flatMap] at hx
    obtain ⟨y, hy, hx⟩ := hx
    refine enumL_fits hs0 hs1 hof m (l ++ [y]) (by rw [← hl]; simp; omega) (fun z hz => ?_) x hx
    rcases List.mem_append.1 hz with hz | hz
    · exact hr z hz
    · simp at hz; subst hz; exact hof _ hy
theorem OutOk.all {A : Au} (hok : AuOk A) {s : Int} : ∀ {ls : List (List Int)} {out : List Int}, (∀ x ∈ ls, Fits A s x) → OutOk A out → OutOk A (addAll A s ls out)
  | [], out, _, h => h
  | l :: ls, out, hf, h => OutOk.all (ls := ls) hok (fun x hx => hf x (by simp [hx])) (h.step hok (hf l (by simp)))
theorem addAll_app (A : Au) (s : Int) (l r : List (List Int)) (out : List Int) : addAll A s (l ++ r) out = addAll A s r (addAll A s l out) := by simp [addAll]

def fnB (A : Au) (out : List Int) : Sg := [(54526080000003, some (.box [.own 54526080000004 A.final.length])), (54526080000004, some (.row 4 1 A.final.length ((isB A.final.length out).map boolD))), (54526080000005, some (.box [.own 54526080000006 out.length])), (54526080000006, some (.row 3 1 out.length (out.map fun x => .flat (.int .i64 x))))]
def lsB (A : Au) (sym : Int) (n : Nat) (of : List Int) : Sg := [(53687091200003, some (.box [intD n])), (53687091200004, some (.box [intsD of])), (53687091200005, some (.box [.clo (.func 82) [] [.ptr (auC A) 0, .ptr [intD sym] 0, .ref 54526080000003 0, .ref 54526080000005 0]])),
  (53687091200006, some (.box [.clo (.func 85) [] [.ref 53687091200003 0, .ref 53687091200005 0, .ref 53687091200004 0, .ref 53687091200006 0]]))]

theorem lists1_d (A : Au) (hok : AuOk A) (sym : Int) (hs0 : 0 ≤ sym) (hs1 : sym < A.ranks.length) (n : Nat) (hn : A.ranks.getD sym.toNat 0 = (n : Int)) (hn2 : n ≤ 2) (of : List Int) (hof : ∀ x ∈ of, 0 ≤ x ∧ x < (A.final.length : Int)) (hofl : of.length ≤ 512) :
    ∀ (m : Nat) (l : List Int), l.length + m = n → (∀ x ∈ l, 0 ≤ x ∧ x < (A.final.length : Int)) → ∀ (out : List Int), OutOk A out →
    DLend Try.prog 85 [intsD l, .ref 53687091200003 0, .ref 53687091200005 0, .ref 53687091200004 0, .ref 53687091200006 0] (fnB A out ++ lsB A sym n of) (fnB A (addAll A sym (enumL of m l) out) ++ lsB A sym n of) (.tup []) := by
  intro m
  induction m with
  | zero =>
    intro l hl hr out ho
    have hf : Fits A sym l := ⟨hs0, hs1, by omega, hr⟩
    have hlen := ho.len
    have hA := hok.hi
    have hc := found1_d A hok sym l hf out (by omega)
    have hgl : out.length ≤ (stepAdd A sym out l).length := by unfold stepAdd; split <;> simp
    have hst : addAll A sym (enumL of 0 l) out = stepAdd A sym out l := rfl
    rw [hst]
    unfold fnB lsB
    refine DLend.enterA Try.func85 Try.ntmps85 ?_
    refine DW.walk ?_
    refine DC.t (T.lendC («as» := [_]) (ds' := [_]) [] EntC.h hc rfl (by exact VgL.of ⟨Vl.pers rfl, Vl.pers rfl, Vl.pers rfl, Vl.ref rfl, Vl.ref rfl, trivial⟩) rfl rfl rfl (fun _ _ => rfl) (EsG.of ⟨⟨Vl.own rfl, trivial⟩, VlL.pers (persL_map (fun _ => rfl) _), ⟨Vl.own rfl, trivial⟩, VlL.pers (persL_map (fun _ => rfl) _), trivial⟩)) ⟨rfl, rfl, trivial⟩ ⟨rfl, rfl, rfl, rfl, trivial⟩ ?_
    refine DC.walk ?_
    exact ⟨.inr rfl, ResL.unitA⟩
  | succ m ih =>
    intro l hl hr out ho
    have hA := hok.hi
    have hok2 : ∀ j, OutOk A (addAll A sym ((of.take j).flatMap fun s => enumL of m (l ++ [s])) out) := fun j => by
      refine OutOk.all hok (fun x hx => ?_) ho
      obtain ⟨y, hy, hx⟩ := List.mem_flatMap.1 hx
      refine enumL_fits hs0 hs1 hof m (l ++ [y]) (by rw [hn]; simp; omega) (fun z hz => ?_) x hx
      rcases List.mem_append.1 hz with hz | hz
      · exact hr z hz
      · simp at hz; subst hz; exact hof _ (List.mem_of_mem_take hy)
    have hmono : out.length ≤ (addAll A sym (enumL of (m + 1) l) out).length := by
      generalize enumL of (m + 1) l = ls
      clear hok2 ho
      induction ls generalizing out with
      | nil => exact Nat.le_refl _
      | cons x r ihr => exact Nat.le_trans (by unfold stepAdd; split <;> simp) (ihr (stepAdd A sym out x))
    have hfin : addAll A sym (enumL of (m + 1) l) out = addAll A sym ((of.take of.length).flatMap fun s => enumL of m (l ++ [s])) out := by rw [List.take_length]; rfl
    unfold fnB lsB
    refine DLend.enterA Try.func85 Try.ntmps85 ?_
    refine DW.walk ?_
    refine DW.loopA (fun j : Nat => ⟨[(0, intsD l), (1, .ref 53687091200003 0), (2, .ref 53687091200005 0), (3, .ref 53687091200004 0), (4, .ref 53687091200006 0), (15, intsD of), (16, intD of.length), (17, intD j)],
      fnB A (addAll A sym ((of.take j).flatMap fun s => enumL of m (l ++ [s])) out) ++ lsB A sym n of⟩) (fun j => j ≤ of.length) (fun j => of.length - j) 0 ?_ (by omega)
    intro j hj
    rcases Nat.lt_or_ge j of.length with hlt | hge
    · obtain ⟨y, hy⟩ : ∃ y, of[j]? = some y := ⟨of[j], by simp⟩
      have hp := part_map (f := fun x => D.flat (.int .i64 x)) hy
      have hc := clone_d 23 (.inl rfl) l (by omega)
      have hyr := hof y (List.mem_of_getElem? hy)
      have hi := ih (l ++ [y]) (by simp; omega) (fun z hz => by
        rcases List.mem_append.1 hz with hz | hz
        · exact hr z hz
        · simp at hz; subst hz; exact hyr) _ (hok2 j)
      have hnext : addAll A sym (enumL of m (l ++ [y])) (addAll A sym ((of.take j).flatMap fun s => enumL of m (l ++ [s])) out) = addAll A sym ((of.take (j + 1)).flatMap fun s => enumL of m (l ++ [s])) out := by
        rw [← addAll_app, List.take_add_one, hy]; simp
      have he : intsD (l ++ [y]) = .sl false 1 (l.length + 1) (l.map (fun x => D.flat (.int .i64 x)) ++ [.flat (.int .i64 y)]) := by simp [intsD]
      rw [hnext, he] at hi
      unfold fnB lsB at hi
      unfold fnB lsB
      unfold intsD intD
      refine DW.walk ?_
      refine DC.t (T.lend («as» := [_]) (ds' := [_]) [] EntC.h hc rfl (by exact VgL.of ⟨Vl.pers rfl, trivial⟩) rfl rfl rfl (fun _ _ => rfl) ⟨trivial, trivial⟩) ⟨rfl, trivial⟩ ⟨rfl, trivial⟩ ?_
      refine DC.walk ?_
      refine DC.t (T.lendC («as» := [_]) (ds' := [_]) [(23, some (.row 3 1 (l.length + 1) (l.map (fun x => D.flat (.int .i64 x)) ++ [.flat (.int .i64 y)])))] EntC.h hi rfl
        (by exact ⟨Vg.give (fun id h => by simp [keys] at h; subst h; rfl) (Vw.own (List.mem_cons_self ..) (VwL.pers (persL_append (persL_map (fun _ => rfl) _) rfl))), Vg.of (Vl.ref rfl), Vg.of (Vl.ref rfl), Vg.of (Vl.ref rfl), Vg.of (Vl.ref rfl), trivial⟩) rfl rfl rfl (dis_of rfl)
        (EsG.of ⟨⟨Vl.own rfl, trivial⟩, VlL.pers (persL_map (fun _ => rfl) _), ⟨Vl.own rfl, trivial⟩, VlL.pers (persL_map (fun _ => rfl) _), VlL.pers rfl, VlL.pers rfl, ⟨Vl.clo trivial ⟨Vl.pers rfl, Vl.pers rfl, Vl.ref rfl, Vl.ref rfl, trivial⟩, trivial⟩, ⟨Vl.clo trivial ⟨Vl.ref rfl, Vl.ref rfl, Vl.ref rfl, Vl.ref rfl, trivial⟩, trivial⟩, trivial⟩)) ⟨rfl, rfl, trivial⟩ ⟨rfl, rfl, rfl, rfl, rfl, rfl, rfl, rfl, rfl, trivial⟩ ?_
      refine DC.walk ?_
      refine ⟨j + 1, by omega, by omega, ?_⟩
      exact Sub.auto
    · have : j = of.length := by omega
      subst this
      rw [hfin]
      unfold fnB lsB intsD intD
      refine DW.walk ?_
      exact ⟨.inl rfl, ResL.unitA⟩
end Go.Proofs.Ytdakoccbmeojhaa
/- Contracts over data, memory lent: what is found. No condition. -/
set_option linter.unusedSimpArgs false
set_option linter.unusedVariables false
set_option maxHeartbeats 1000000
set_option maxRecDepth 8000
namespace Go.Proofs.Ytdakoccbmeojhaa
open Go Go.RowKit Go.PP Go.Dm

theorem addAll_mono (A : Au) (s : Int) : ∀ (ls : List (List Int)) (out : List Int), out.length ≤ (addAll A s ls out).length
  | [], out => Nat.le_refl _
  | x :: r, out => Nat.le_trans (by unfold stepAdd; split <;> simp) (addAll_mono A s r (stepAdd A s out x))

theorem lists_d (A : Au) (hok : AuOk A) (sym : Int) (hs0 : 0 ≤ sym) (hs1 : sym < A.ranks.length) (n : Nat) (hn : A.ranks.getD sym.toNat 0 = (n : Int)) (hn2 : n ≤ 2) (of : List Int) (hof : ∀ x ∈ of, 0 ≤ x ∧ x < (A.final.length : Int)) (hofl : of.length ≤ 512) (out : List Int) (ho : OutOk A out) :
    DLend Try.prog 81 [intD n, intsD of, .clo (.func 82) [] [.ptr (auC A) 0, .ptr [intD sym] 0, .ref 54526080000003 0, .ref 54526080000005 0]] (fnB A out) (fnB A (addAll A sym (enumL of n []) out)) (.tup []) := by
  have hi := lists1_d A hok sym hs0 hs1 n hn hn2 of hof hofl n [] (by simp) (by simp) out ho
  have hmono := addAll_mono A sym (enumL of n []) out
  have h3 := IdAt.of 3 53687091200003
  have h4 := IdAt.of 4 53687091200004
  have h5 := IdAt.of 5 53687091200005
  have h6 := IdAt.of 6 53687091200006
  unfold fnB lsB at hi
  unfold fnB
  refine DLend.enterA Try.func81 Try.ntmps81 ?_
  refine DW.walk ?_
  refine DC.t (T.lendC («as» := [_]) (ds' := [_]) [] EntC.h hi rfl (by exact VgL.of ⟨Vl.p rfl (Le.nil _ _), Vl.ref rfl, Vl.ref rfl, Vl.ref rfl, Vl.ref rfl, trivial⟩) rfl rfl rfl (fun _ _ => rfl)
    (EsG.of ⟨⟨Vl.own rfl, trivial⟩, VlL.pers (persL_map (fun _ => rfl) _), ⟨Vl.own rfl, trivial⟩, VlL.pers (persL_map (fun _ => rfl) _), VlL.pers rfl, VlL.pers rfl, ⟨Vl.clo trivial ⟨Vl.pers rfl, Vl.pers rfl, Vl.ref rfl, Vl.ref rfl, trivial⟩, trivial⟩, ⟨Vl.clo trivial ⟨Vl.ref rfl, Vl.ref rfl, Vl.ref rfl, Vl.ref rfl, trivial⟩, trivial⟩, trivial⟩)) ⟨rfl, rfl, trivial⟩ ⟨rfl, rfl, rfl, rfl, rfl, rfl, rfl, rfl, trivial⟩ ?_
  refine DC.walk ?_
  exact ⟨.inl rfl, ResL.unitA⟩
end Go.Proofs.Ytdakoccbmeojhaa
/- Contracts over data: what is found. No condition. -/
set_option linter.unusedSimpArgs false
set_option linter.unusedVariables false
set_option maxHeartbeats 1000000
set_option maxRecDepth 8000
namespace Go.Proofs.Ytdakoccbmeojhaa
open Go Go.RowKit Go.PP Go.Dm

/-- One symbol of a round, and a round. -/
def symS (A : Au) (of : List Int) (o : List Int) (s : Nat) : List Int := addAll A s (enumL of (A.ranks.getD s 0).toNat []) o
def roundP (A : Au) (of out : List Int) (j : Nat) : List Int := (List.range j).foldl (symS A of) out
def roundA (A : Au) (out : List Int) : List Int := roundP A out out A.ranks.length
def foundK (A : Au) : Nat → List Int
  | 0 => []
  | k + 1 => roundA A (foundK A k)
def foundA (A : Au) : List Int := foundK A (A.final.length + 1)

theorem stepAdd_pre (A : Au) (s : Int) (out l : List Int) : out <+: stepAdd A s out l := by
  unfold stepAdd; split
  · exact List.prefix_refl _
  · exact List.prefix_append ..
theorem addAll_pre (A : Au) (s : Int) : ∀ (ls : List (List Int)) (out : List Int), out <+: addAll A s ls out
  | [], out => List.prefix_refl _
  | x :: r, out => (stepAdd_pre A s out x).trans (addAll_pre A s r (stepAdd A s out x))
theorem roundP_succ (A : Au) (of out : List Int) (j : Nat) : roundP A of out (j + 1) = symS A of (roundP A of out j) j := by simp [roundP, List.range_succ]
theorem roundP_pre (A : Au) (of out : List Int) : ∀ j, out <+: roundP A of out j
  | 0 => List.prefix_refl _
  | j + 1 => by rw [roundP_succ]; exact (roundP_pre A of out j).trans (addAll_pre ..)
theorem roundA_pre (A : Au) (out : List Int) : out <+: roundA A out := roundP_pre ..
theorem rank_at {A : Au} (hok : AuOk A) {j : Nat} (hj : j < A.ranks.length) : A.ranks[j]? = some (((A.ranks.getD j 0).toNat : Nat) : Int) ∧ (A.ranks.getD j 0).toNat ≤ 2 ∧ A.ranks.getD j 0 = (((A.ranks.getD j 0).toNat : Nat) : Int) := by
  have h1 : A.ranks.getD j 0 = A.ranks[j] := by simp [List.getD, hj]
  have h2 := hok.alpha.rng A.ranks[j] (by simp)
  rw [h1]
  have h3 : (((A.ranks[j]).toNat : Nat) : Int) = A.ranks[j] := by omega
  refine ⟨by rw [h3]; simp, by omega, h3.symm⟩
theorem roundP_ok {A : Au} (hok : AuOk A) {of out : List Int} (hof : ∀ x ∈ of, 0 ≤ x ∧ x < (A.final.length : Int)) (ho : OutOk A out) : ∀ j, j ≤ A.ranks.length → OutOk A (roundP A of out j)
  | 0, _ => ho
  | j + 1, h => by
    rw [roundP_succ]
    obtain ⟨r1, r2, r3⟩ := rank_at hok (show j < A.ranks.length by omega)
    exact OutOk.all hok (enumL_fits (by omega) (by omega) hof _ [] (by rw [Int.toNat_natCast]; simp only [List.length_nil, Nat.zero_add]; exact r3.symm) (by simp)) (roundP_ok hok hof ho j (by omega))
theorem foundK_ok {A : Au} (hok : AuOk A) : ∀ k, OutOk A (foundK A k)
  | 0 => OutOk.nil A
  | k + 1 => roundP_ok hok (foundK_ok hok k).rng (foundK_ok hok k) _ (Nat.le_refl _)
theorem foundK_stop {A : Au} {k : Nat} (h : (foundK A (k + 1)).length ≤ (foundK A k).length) : ∀ m, foundK A (k + m) = foundK A k
  | 0 => rfl
  | m + 1 => by
    have h1 : foundK A (k + 1) = foundK A k := (List.IsPrefix.eq_of_length_le (roundA_pre A (foundK A k)) h).symm
    have h2 : foundK A (k + (m + 1)) = roundA A (foundK A (k + m)) := rfl
    rw [h2, foundK_stop h m]
    exact h1
theorem foundK_grow {A : Au} : ∀ k, (∀ j < k, (foundK A j).length < (foundK A (j + 1)).length) → k ≤ (foundK A k).length
  | 0, _ => Nat.zero_le _
  | k + 1, h => by
    have := foundK_grow k (fun j hj => h j (by omega))
    have := h k (by omega)
    omega
/-- Where the rounds stop, everything is found. -/
theorem foundK_end {A : Au} (hok : AuOk A) {k : Nat} (hg : ∀ j < k, (foundK A j).length < (foundK A (j + 1)).length) (h : (foundK A (k + 1)).length ≤ (foundK A k).length) : foundK A (k + 1) = foundA A := by
  have h1 := foundK_grow k hg
  have h2 := (foundK_ok hok k).len
  have h3 := foundK_stop h (A.final.length + 1 - k)
  rw [show k + (A.final.length + 1 - k) = A.final.length + 1 by omega] at h3
  unfold foundA
  rw [h3]
  exact foundK_stop h 1

def wasK (A : Au) : Nat → Int
  | 0 => -1
  | k + 1 => ((foundK A k).length : Nat)
theorem found_d (A : Au) (hok : AuOk A) : DFun Try.prog 70 [auD A] (intsD (foundA A)) := by
  have h3 := IdAt.of 3 54526080000005
  have h12 := IdAt.of 12 54526080000004
  have h4 := IdAt.of 4 54526080000003
  have hn := hok.hi
  have hrl := hok.alpha.hi
  have hz : List.replicate A.final.length (D.flat (.bool false)) = (isB A.final.length []).map boolD := by
    refine List.ext_getElem? fun i => ?_
    rw [List.getElem?_map]
    by_cases hi : i < A.final.length
    · rw [isB_get hi]; simp [hi, boolD]
    · rw [List.getElem?_eq_none (by simp; omega), List.getElem?_eq_none (by rw [isB_len]; omega)]; rfl
  refine DFun.enterA Try.func70 Try.ntmps70 ?_
  refine DW.walk ?_
  refine DW.adoptBox 54526080000005 0 54526080000006 3 1 rfl rfl rfl ?_
  refine DW.loopA (fun k : Nat => ⟨[(1, .ptr (auC A) 0), (3, .ref 54526080000005 0), (4, .ref 54526080000003 0), (5, intD (wasK A k))], fnB A (foundK A k)⟩)
    (fun k => ∀ j < k - 1, (foundK A j).length < (foundK A (j + 1)).length) (fun k => 2 * (A.final.length - (foundK A k).length) + if wasK A k < ((foundK A k).length : Nat) then 1 else 0) 0 ?_ (by omega) (by
      unfold fnB
      exact Sub.auto)
  intro k hk
  have hok1 := foundK_ok hok k
  have hlen := hok1.len
  have hok2 := foundK_ok hok (k + 1)
  have hlen2 := hok2.len
  have hpre : (foundK A k).length ≤ (foundK A (k + 1)).length := (roundA_pre A (foundK A k)).length_le
  by_cases hw : wasK A k < ((foundK A k).length : Nat)
  · have hgk : ∀ j < k, (foundK A j).length < (foundK A (j + 1)).length := fun j hj => by
      by_cases hj2 : j < k - 1
      · exact hk j hj2
      · cases k with
        | zero => omega
        | succ k =>
          have : j = k := by omega
          subst this
          have : wasK A (j + 1) = ((foundK A j).length : Nat) := rfl
          omega
    have hcl := cloneO_d (foundK A k) (by omega)
    unfold fnB auC
    generalize wasK A k = was at hw ⊢
    generalize hf : foundK A k = out at *
    refine DW.walk ?_
    refine DC.t (T.lend («as» := [_]) (ds' := [_]) [] EntC.h hcl rfl (by exact VgL.of ⟨Vl.own rfl, trivial⟩) rfl rfl rfl (fun _ _ => rfl) (EsG.of ⟨trivial, VlL.pers (persL_map (fun _ => rfl) _), trivial⟩)) ⟨rfl, trivial⟩ ⟨rfl, rfl, trivial⟩ ?_
    refine DC.walk ?_
    refine DW.loopA (fun j : Nat => ⟨[(1, .ptr (auC A) 0), (3, .ref 54526080000005 0), (4, .ref 54526080000003 0), (5, intD out.length), (6, intsD out), (22, intsD A.ranks), (23, intD A.ranks.length), (24, intD j)], fnB A (roundP A out out j)⟩)
      (fun j => j ≤ A.ranks.length) (fun j => A.ranks.length - j) 0 ?_ (by omega) (by unfold fnB; exact Sub.auto)
    intro j hj
    have hokj := roundP_ok hok hok1.rng hok1 j hj
    have hlenj := hokj.len
    rcases Nat.lt_or_ge j A.ranks.length with hlt | hge
    · obtain ⟨r1, r2, r3⟩ := rank_at hok hlt
      have hp := part_map (f := fun x => D.flat (.int .i64 x)) r1
      have hls := lists_d A hok j (by omega) (by omega) _ r3 r2 out hok1.rng (by omega) (roundP A out out j) hokj
      rw [show addAll A j (enumL out (A.ranks.getD j 0).toNat []) (roundP A out out j) = roundP A out out (j + 1) from (roundP_succ ..).symm] at hls
      unfold fnB auC intsD intD at *
      refine DW.walkTo 10 ?_
      refine DW.sub (s' := ⟨[(1, .ptr (auC A) 0), (3, .ref 54526080000005 0), (4, .ref 54526080000003 0), (5, intD out.length), (6, intsD out), (22, intsD A.ranks), (23, intD A.ranks.length), (24, intD j), (7, .ptr [intD j] 0), (8, intD (A.ranks.getD j 0).toNat)], fnB A (roundP A out out j)⟩) (by unfold fnB; exact Sub.auto) ?_
      unfold fnB auC intsD intD
      refine DW.walk ?_
      refine DC.t (T.lend («as» := [_, _, _]) (ds' := [_, _, _]) [] EntC.h hls rfl (by exact VgL.of ⟨Vl.pers rfl, Vl.pers rfl, Vl.clo trivial ⟨Vl.pers rfl, Vl.pers rfl, Vl.ref rfl, Vl.ref rfl, trivial⟩, trivial⟩) rfl rfl rfl (fun _ _ => rfl) (EsG.of ⟨⟨Vl.own rfl, trivial⟩, VlL.pers (persL_map (fun _ => rfl) _), ⟨Vl.own rfl, trivial⟩, VlL.pers (persL_map (fun _ => rfl) _), trivial⟩)) ⟨rfl, rfl, rfl, trivial⟩ ⟨rfl, rfl, rfl, rfl, trivial⟩ ?_
      refine DC.walk ?_
      exact ⟨j + 1, by omega, by omega, Sub.auto⟩
    · have hje : j = A.ranks.length := by omega
      subst hje
      have hfk : roundP A out out A.ranks.length = foundK A (k + 1) := by rw [← hf]; rfl
      rw [hfk]
      have hwk : wasK A (k + 1) = ((foundK A k).length : Nat) := rfl
      rw [hf] at hwk
      refine DW.walk ?_
      refine ⟨k + 1, fun i hi => hgk i (by omega), ?_, by unfold fnB; rw [hwk]; exact Sub.auto⟩
      rw [hwk, if_pos hw]
      split <;> omega
  · have hk0 : ∃ k', k = k' + 1 := ⟨k - 1, by
      cases k with
      | zero => exact absurd (show wasK A 0 < ((foundK A 0).length : Nat) from by simp [wasK]; omega) hw
      | succ k => rfl⟩
    obtain ⟨k, rfl⟩ := hk0
    have hend := foundK_end hok (k := k) (fun i hi => hk i (by omega)) (by
      have : wasK A (k + 1) = ((foundK A k).length : Nat) := rfl
      omega)
    rw [hend] at hw ⊢
    unfold fnB auC
    refine DW.walk ?_
    exact ⟨.inr rfl, ResOk.one [(54526080000006, some (.row 3 1 (foundA A).length ((foundA A).map fun x => .flat (.int .i64 x))))] rfl rfl ⟨rfl, trivial⟩ (Vw.own (List.mem_cons_self ..) (VwL.pers (persL_map (fun _ => rfl) _)))⟩
end Go.Proofs.Ytdakoccbmeojhaa
