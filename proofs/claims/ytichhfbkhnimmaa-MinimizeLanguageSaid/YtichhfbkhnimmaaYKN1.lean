/- Turned numberings. No condition. -/
import Derived.Test.YtichhfbkhnimmaaYMH
import Derived.Test.YtichhfbkhnimmaaYDI2
import Derived.Test.YtichhfbkhnimmaaYE3
import Derived.Test.YtichhfbkhnimmaaYML
import Derived.Test.YtichhfbkhnimmaaYD5
import Derived.Test.YtichhfbkhnimmaaYE1
import Derived.Test.YtichhfbkhnimmaaYKE

set_option linter.unusedSimpArgs false
set_option linter.unusedVariables false
set_option maxHeartbeats 4000000
set_option maxRecDepth 8000
namespace Go.Proofs.Ytichhfbkhnimmaa
open Go Go.RowKit Go.PP Go.Dm Go.Rt Go.Mn
theorem perm_of {n : Nat} {f : Nat → Nat} (hf : ∀ i, i < n → f i < n) (hi : ∀ i j, i < n → j < n → f i = f j → i = j) : PermOk n ((List.range n).map fun i => ((f i : Nat) : Int)) := by
  refine ⟨by simp, ?_, fun s hs => ?_⟩
  · rw [List.nodup_iff_pairwise_ne, List.pairwise_map]
    refine List.Pairwise.imp_of_mem ?_ (List.nodup_iff_pairwise_ne.1 List.nodup_range)
    intro a b ha hb hne e
    exact hne (hi a b (List.mem_range.1 ha) (List.mem_range.1 hb) (by omega))
  · obtain ⟨i, h1, rfl⟩ := List.mem_map.1 hs
    have := hf i (List.mem_range.1 h1)
    exact ⟨by omega, by omega⟩
theorem mod_inj {n b i j : Nat} (hi : i < n) (hj : j < n) (h : (i + b) % n = (j + b) % n) : i = j := by
  rw [← Nat.add_mod_mod, ← Nat.add_mod_mod (m := j)] at h
  have hc : b % n < n := Nat.mod_lt _ (by omega)
  generalize b % n = c at *
  have key : ∀ x, x < n → (x + c < n ∧ (x + c) % n = x + c) ∨ (n ≤ x + c ∧ (x + c) % n = x + c - n) := fun x hx => by
    rcases Nat.lt_or_ge (x + c) n with h1 | h1
    · exact .inl ⟨h1, Nat.mod_eq_of_lt h1⟩
    · exact .inr ⟨h1, by rw [Nat.mod_eq_sub_mod h1, Nat.mod_eq_of_lt (by omega)]⟩
  rcases key i hi with ⟨a1, a2⟩ | ⟨a1, a2⟩ <;> rcases key j hj with ⟨b1, b2⟩ | ⟨b1, b2⟩ <;> omega
def swp (i : Nat) : Nat := if i = 0 then 1 else if i = 1 then 0 else i
theorem swp_inj {i j : Nat} (h : swp i = swp j) : i = j := by unfold swp at h; split at h <;> split at h <;> (try split at h) <;> (try split at h) <;> omega
def rotL (n b : Nat) (j : Nat) : List Int := (List.range j).map fun i => (((i + b) % n : Nat) : Int)
def rotS (n b : Nat) : List Int := (List.range n).map fun i => (((swp i + b) % n : Nat) : Int)
theorem rot_ok {n b : Nat} (h : 0 < n) : PermOk n (rotL n b n) := perm_of (f := fun i => (i + b) % n) (fun i _ => Nat.mod_lt _ h) (fun i j hi hj e => mod_inj hi hj e)
theorem rotS_ok {n b : Nat} (h : 1 < n) : PermOk n (rotS n b) := perm_of (f := fun i => (swp i + b) % n) (fun i _ => Nat.mod_lt _ (by omega)) (fun i j hi hj e => swp_inj (mod_inj (by unfold swp; split <;> (try split) <;> omega) (by unfold swp; split <;> (try split) <;> omega) e))
theorem rotL_get {n b j i : Nat} (h : i < j) : (rotL n b j)[i]? = some (((i + b) % n : Nat) : Int) := by simp [rotL, h]
theorem rotS_set {n b : Nat} (h : 1 < n) : ((rotL n b n).set 0 (((1 + b) % n : Nat) : Int)).set 1 (((0 + b) % n : Nat) : Int) = rotS n b := by
  refine List.ext_getElem? fun a => ?_
  unfold rotL rotS
  by_cases ha : a < n
  · rw [List.getElem?_set, List.getElem?_set]
    by_cases h1 : 1 = a
    · subst h1
      simp [swp, h]
    · by_cases h0 : 0 = a
      · subst h0
        simp [swp, ha]
      · simp [h1, h0, ha, swp, show ¬ a = 0 from fun e => h0 e.symm, show ¬ a = 1 from fun e => h1 e.symm]
  · rw [List.getElem?_eq_none (by simp; omega), List.getElem?_eq_none (by simp; omega)]
end Go.Proofs.Ytichhfbkhnimmaa

set_option linter.unusedSimpArgs false
set_option linter.unusedVariables false
set_option maxHeartbeats 4000000
set_option maxRecDepth 8000
namespace Go.Proofs.Ytichhfbkhnimmaa
open Go Go.RowKit Go.PP Go.Dm Go.Rt Go.Mn
theorem dsW_pers (W : List Go.Mn.Way) : persL (dsW W) = true := persL_map (fun _ => rfl) W
theorem oneL_app : ∀ {a b : List D}, oneL a = true → oneL b = true → oneL (a ++ b) = true
  | [], _, _, h => h
  | d :: a, b, h, k => by
    simp only [List.cons_append, oneL, Bool.and_eq_true] at h ⊢
    exact ⟨h.1, oneL_app h.2 k⟩
theorem spC_oneL : ∀ l : List Sp, oneL (spC l) = true
  | [] => rfl
  | s :: l => by rw [spC_cons]; exact oneL_app rfl (spC_oneL l)
theorem bfs_new {A : Au} {w : Go.Mn.Way} {W : List Go.Mn.Way} {i : Nat} (h : ¬ ((wayNext A w i).p = (wayNext A w i).q ∨ (wayNext A w i).pr ∈ W.map Go.Mn.Way.pr)) : bfsAdd A w W i = W ++ [wayNext A w i] := if_neg h
theorem bfs_old {A : Au} {w : Go.Mn.Way} {W : List Go.Mn.Way} {i : Nat} (h : (wayNext A w i).p = (wayNext A w i).q ∨ (wayNext A w i).pr ∈ W.map Go.Mn.Way.pr) : bfsAdd A w W i = W := if_pos h
def bfsTo (A : Au) (w : Go.Mn.Way) (W : List Go.Mn.Way) : Nat → List Go.Mn.Way
  | 0 => W
  | i + 1 => bfsAdd A w (bfsTo A w W i) i
theorem bfsTo_inv {A : Au} (hok : AuOk A) {p q : Int} {k : Nat} {W : List Go.Mn.Way} {w : Go.Mn.Way} (h : BInv A p q k 0 W) (hw : W[k]? = some w) : ∀ i, i ≤ (stepsA A).length → BInv A p q k i (bfsTo A w W i) ∧ (bfsTo A w W i)[k]? = some w
  | 0, _ => ⟨h, hw⟩
  | i + 1, hi => by
    obtain ⟨h1, h2⟩ := bfsTo_inv hok h hw i (by omega)
    exact h1.add hok h2 (by omega)
theorem bInv_wok {A : Au} {p q : Int} {k i : Nat} {W : List Go.Mn.Way} (h : BInv A p q k i W) : WOk A W := ⟨h.nd, fun w hw => ⟨(h.run w hw).2.2.2.1, (h.run w hw).2.2.2.2⟩⟩
theorem wordS_snoc (A : Au) (l : List Nat) (i : Nat) : spC (wordS A (l ++ [i])) = spC (wordS A l) ++ [.flat (.int .i64 (spAt A i).sym), .flat (.int .i64 (spAt A i).at_), .flat (.int .i64 (spAt A i).other)] := by
  unfold wordS
  rw [List.map_append, List.map_cons, List.map_nil, spC_snoc]
theorem spAt_get {A : Au} {i : Nat} (h : i < (stepsA A).length) : (stepsA A)[i]? = some (spAt A i) := by
  unfold spAt
  rw [List.getD_eq_getElem?_getD, List.getElem?_eq_getElem h]; rfl
theorem slt_len {u v : List Nat} (h : slt u v) : u.length ≤ v.length := by
  rcases h with h | h
  · omega
  · omega
theorem bInv_len {A : Au} {p q : Int} {k i : Nat} {W : List Go.Mn.Way} (h : BInv A p q k i W) : ∀ (j : Nat) (u : Go.Mn.Way), W[j]? = some u → u.l.length ≤ j := by
  intro j
  induction j using Nat.strongRecOn with
  | _ j ih =>
    intro u hu
    rcases h.par u (List.mem_of_getElem? hu) with e | ⟨j', u', x, h1, h2, _⟩
    · rw [e]; exact Nat.zero_le _
    · have hl : u.l.length = u'.l.length + 1 := by rw [h2]; simp
      rcases Nat.lt_trichotomy j' j with h3 | h3 | h3
      · have := ih j' h3 u' h1
        omega
      · subst h3
        rw [hu] at h1
        cases h1
        omega
      · have hp := h.srt
        rw [List.pairwise_iff_getElem] at hp
        obtain ⟨l1, e1⟩ := List.getElem?_eq_some_iff.1 hu
        obtain ⟨l2, e2⟩ := List.getElem?_eq_some_iff.1 h1
        have := slt_len (hp j j' l1 l2 h3)
        rw [e1, e2] at this
        omega
theorem di_row {cc cd : Code} (hsel : selC [1, 1, 1, 1, 1, 0, 1, 2, 2, 1, 0, 2, 1, 1, 0] code20 = some cc) (hsel2 : selC [1, 1, 1, 1, 1, 0, 1, 2, 2, 1, 0, 2, 1, 1, 1] code20 = some cd) (A : Au) (hok : AuOk A) (hst : (stepsA A).length ≤ 5000000) (p q : Int) (k : Nat) (W : List Go.Mn.Way) (w : Go.Mn.Way) (hB : BInv A p q k 0 W) (hw : W[k]? = some w) :
    DW Try.prog 122 cc ⟨[(3, .ptr [.sl false 1 A.ranks.length (A.ranks.map fun x => D.flat (.int .i64 x)), .sl false 1 A.final.length (A.final.map fun x => D.flat (.bool x)), .sl false 1 A.to.length (rowsL A.to)] 0), (11, .sl false 3 (stepsA A).length (spC (stepsA A))), (12, .mp 44), (13, .own 700 (W.length - k)), (14, .ref 14 0)], [(44, some (.box (.keys (ksW W) :: dsW W))), (700, some (.row 104 3 (W.length - k) (waysC A (W.drop k)))), (14, some (.box [.flat (.int .i64 w.p), .flat (.int .i64 w.q), .sl false 3 w.l.length (spC (wordS A w.l))]))]⟩ (Thn (fun s' => DW Try.prog 122 cd s' (Nm 122 ⟨[(3, .ptr [.sl false 1 A.ranks.length (A.ranks.map fun x => D.flat (.int .i64 x)), .sl false 1 A.final.length (A.final.map fun x => D.flat (.bool x)), .sl false 1 A.to.length (rowsL A.to)] 0), (11, .sl false 3 (stepsA A).length (spC (stepsA A))), (12, .mp 44), (13, .own 700 ((bfsTo A w W (stepsA A).length).length - k)), (14, .ref 14 0)], [(44, some (.box (.keys (ksW (bfsTo A w W (stepsA A).length)) :: dsW (bfsTo A w W (stepsA A).length)))), (700, some (.row 104 3 ((bfsTo A w W (stepsA A).length).length - k) (waysC A ((bfsTo A w W (stepsA A).length).drop k)))), (14, some (.box [.flat (.int .i64 w.p), .flat (.int .i64 w.q), .sl false 3 w.l.length (spC (wordS A w.l))]))]⟩)) (Nm 122 ⟨[(3, .ptr [.sl false 1 A.ranks.length (A.ranks.map fun x => D.flat (.int .i64 x)), .sl false 1 A.final.length (A.final.map fun x => D.flat (.bool x)), .sl false 1 A.to.length (rowsL A.to)] 0), (11, .sl false 3 (stepsA A).length (spC (stepsA A))), (12, .mp 44), (13, .own 700 ((bfsTo A w W (stepsA A).length).length - k)), (14, .ref 14 0)], [(44, some (.box (.keys (ksW (bfsTo A w W (stepsA A).length)) :: dsW (bfsTo A w W (stepsA A).length)))), (700, some (.row 104 3 ((bfsTo A w W (stepsA A).length).length - k) (waysC A ((bfsTo A w W (stepsA A).length).drop k)))), (14, some (.box [.flat (.int .i64 w.p), .flat (.int .i64 w.q), .sl false 3 w.l.length (spC (wordS A w.l))]))]⟩)) := by
  obtain rfl := Option.some.inj (hsel2.symm.trans (show selC [1, 1, 1, 1, 1, 0, 1, 2, 2, 1, 0, 2, 1, 1, 1] code20 = some _ by rfl))
  have hinv := bfsTo_inv hok hB hw
  have hwl := bInv_len hB k w hw
  have hkl := (List.getElem?_eq_some_iff.1 hw).1
  have hfw := hB.few
  have hnn : A.final.length * A.final.length ≤ 262144 := Nat.le_trans (Nat.mul_le_mul hok.hi hok.hi) (by decide)
  have q1 := pers_i A.ranks
  have q2 := pers_b A.final
  have q3 := pers_r A.to
  have q4 := spC_pers (stepsA A)
  have q5 := spC_pers (wordS A w.l)
  have hrun := hB.run w (List.mem_of_getElem? hw)
  have hgs : ∀ i, i < (stepsA A).length → partD true 3 (i * 3) (spC (stepsA A)) = some (.agg [.flat (.int .i64 (spAt A i).sym), .flat (.int .i64 (spAt A i).at_), .flat (.int .i64 (spAt A i).other)]) := fun i h => spC_get (spAt_get h)
  have hnx : ∀ i (x : Int), i < (stepsA A).length → InA A x → DFun Try.prog 55 [.agg [.flat (.int .i64 (spAt A i).sym), .flat (.int .i64 (spAt A i).at_), .flat (.int .i64 (spAt A i).other)], .agg [.sl false 1 A.ranks.length (A.ranks.map fun x => D.flat (.int .i64 x)), .sl false 1 A.final.length (A.final.map fun x => D.flat (.bool x)), .sl false 1 A.to.length (rowsL A.to)], .flat (.int .i64 x)] (.flat (.int .i64 (nextI A (spAt A i) x))) := fun i x h hx => next_d A hok (spAt A i) (mem_steps.1 (spAt_mem h)) x hx
  have hwc : (wordS A w.l).length = w.l.length := by simp [wordS]
  have hcl := cloneS_d (spC (wordS A w.l)) w.l.length (by rw [spC_len, hwc]) q5 (spC_oneL _) (by omega)
  have hq := fun V : List Go.Mn.Way => waysC_pers A V
  have hd := fun V : List Go.Mn.Way => dsW_pers V
  have e1 := fun (cc : Code) (h : selC [1, 1, 1, 1, 1, 0, 1, 2, 2, 1, 0, 2, 1, 1, 1, 2, 2] code20 = some cc) => di_eq h
  have e2 := fun (cc : Code) (h : selC [1, 1, 1, 1, 1, 0, 1, 2, 2, 1, 0, 2, 1, 1, 1, 2, 2] code20 = some cc) => di_in h
  have e3 := fun (cc : Code) (h : selC [1, 1, 1, 1, 1, 0, 1, 2, 2, 1, 0, 2, 1, 1, 1, 2, 2] code20 = some cc) => di_new h
  refine DW.sel hsel (by rfl) ?_
  have p0 := hq (W.drop k)
  have p1 := hd W
  generalize hSC : spC (stepsA A) = SC at *
  generalize hWL : spC (wordS A w.l) = WL at *
  generalize hLR : (A.ranks.map fun x => D.flat (.int .i64 x)) = LR at *
  generalize hLB : (A.final.map fun x => D.flat (.bool x)) = LB at *
  generalize hLT : rowsL A.to = LT at *
  generalize hQ0 : waysC A (W.drop k) = Q0 at *
  generalize hD0 : dsW W = D0 at *
  refine DW.walk ?_
  rw [← hQ0, ← hD0]
  refine DW.loopA (fun i : Nat => ⟨[(3, .ptr [.sl false 1 A.ranks.length LR, .sl false 1 A.final.length LB, .sl false 1 A.to.length LT] 0), (11, .sl false 3 (stepsA A).length SC), (12, .mp 44), (13, .own 700 ((bfsTo A w W i).length - k)), (14, .ref 14 0), (79, .sl false 3 (stepsA A).length SC), (80, .flat (.int .i64 (((stepsA A).length : Nat) : Int))), (81, .flat (.int .i64 ((i : Nat) : Int)))], [(44, some (.box (.keys (ksW (bfsTo A w W i)) :: dsW (bfsTo A w W i)))), (700, some (.row 104 3 ((bfsTo A w W i).length - k) (waysC A ((bfsTo A w W i).drop k)))), (14, some (.box [.flat (.int .i64 w.p), .flat (.int .i64 w.q), .sl false 3 w.l.length WL]))]⟩) (fun i => i ≤ (stepsA A).length) (fun i => (stepsA A).length - i) 0 ?_ (Nat.zero_le _) (by show Sub _ _ ⟨[(3, .ptr [.sl false 1 A.ranks.length LR, .sl false 1 A.final.length LB, .sl false 1 A.to.length LT] 0), (11, .sl false 3 (stepsA A).length SC), (12, .mp 44), (13, .own 700 (W.length - k)), (14, .ref 14 0), (79, .sl false 3 (stepsA A).length SC), (80, .flat (.int .i64 (((stepsA A).length : Nat) : Int))), (81, .flat (.int .i64 ((0 : Nat) : Int)))], [(44, some (.box (.keys (ksW W) :: dsW W))), (700, some (.row 104 3 (W.length - k) (waysC A (W.drop k)))), (14, some (.box [.flat (.int .i64 w.p), .flat (.int .i64 w.q), .sl false 3 w.l.length WL]))]⟩; rw [hQ0, hD0]; exact Sub.auto)
  intro i hi
  obtain ⟨hBi, hwi⟩ := hinv i hi
  have hfi := hBi.few
  have hki := (List.getElem?_eq_some_iff.1 hwi).1
  rcases Nat.lt_or_ge i (stepsA A).length with hlt | hge
  · obtain ⟨V, hV⟩ : ∃ V, bfsTo A w W i = V := ⟨_, rfl⟩
    have hnext : bfsTo A w W (i + 1) = bfsAdd A w V i := by rw [← hV]; rfl
    rw [hV] at hBi hwi hfi hki ⊢
    have hx := hnx i w.p hlt hrun.2.2.2.1
    have hy := hnx i w.q hlt hrun.2.2.2.2
    by_cases c1 : nextI A (spAt A i) w.p = nextI A (spAt A i) w.q
    · have hb : bfsAdd A w V i = V := bfs_old (.inl c1)
      refine (e1 _ (by rfl) LR LB LT SC WL (waysC A (V.drop k)) (dsW V) (ksW V) A.final.length A.ranks.length A.to.length (stepsA A).length i w.l.length (V.length - k) w.p w.q _ _ _ _ _ hst hlt (by omega) (by omega) q1 q2 q3 q4 q5 (hq _) (hd _) (hgs i hlt) hx hy c1).mono ?_
      rintro e s' ⟨rfl, hsub⟩
      exact ⟨i + 1, by omega, by omega, by rw [hnext, hb]; exact hsub⟩
    · by_cases c2 : (nextI A (spAt A i) w.p, nextI A (spAt A i) w.q) ∈ V.map Go.Mn.Way.pr
      · have hb : bfsAdd A w V i = V := bfs_old (.inr c2)
        obtain ⟨ix, l1, l2⟩ := lookW_in hok (bInv_wok hBi) c2
        refine (e2 _ (by rfl) LR LB LT SC WL (waysC A (V.drop k)) (dsW V) (ksW V) A.final.length A.ranks.length A.to.length (stepsA A).length i w.l.length (V.length - k) w.p w.q _ _ _ _ _ hst hlt (by omega) (by omega) q1 q2 q3 q4 q5 (hq _) (hd _) (hgs i hlt) hx hy c1 ix l1 l2).mono ?_
        rintro e s' ⟨rfl, hsub⟩
        exact ⟨i + 1, by omega, by omega, by rw [hnext, hb]; exact hsub⟩
      · have hb : bfsAdd A w V i = V ++ [wayNext A w i] := bfs_new (fun h => h.elim c1 c2)
        have hsp := mem_steps.1 (spAt_mem hlt)
        have hl := lookW_no hok (bInv_wok hBi) (next_in hok hsp hrun.2.2.2.1) (next_in hok hsp hrun.2.2.2.2) c2
        obtain ⟨k1, k2⟩ := ksW_snoc V (wayNext A w i)
        have hdr : (V ++ [wayNext A w i]).drop k = V.drop k ++ [wayNext A w i] := List.drop_append_of_le_length (by omega)
        have hll : (V ++ [wayNext A w i]).length - k = V.length - k + 1 := by simp; omega
        have hwn : waysC A (V.drop k ++ [wayNext A w i]) = waysC A (V.drop k) ++ [.flat (.int .i64 (nextI A (spAt A i) w.p)), .flat (.int .i64 (nextI A (spAt A i) w.q)), .sl false 3 (w.l.length + 1) (WL ++ [.flat (.int .i64 (spAt A i).sym), .flat (.int .i64 (spAt A i).at_), .flat (.int .i64 (spAt A i).other)])] := by
          rw [waysC_snoc]
          unfold wayC wayNext
          simp only [List.length_append, List.length_singleton, wordS_snoc, hWL]
        have q6 := hq (V.drop k ++ [wayNext A w i])
        have q7 := hd (V ++ [wayNext A w i])
        have q8 : persL (WL ++ [.flat (.int .i64 (spAt A i).sym), .flat (.int .i64 (spAt A i).at_), .flat (.int .i64 (spAt A i).other)]) = true := persL_append q5 rfl
        refine (e3 _ (by rfl) LR LB LT SC WL (waysC A (V.drop k)) (dsW V) (ksW V) A.final.length A.ranks.length A.to.length (stepsA A).length i w.l.length (V.length - k) w.p w.q _ _ _ _ _ hst hlt (by omega) (by omega) q1 q2 q3 q4 q5 (hq _) (hd _) (hgs i hlt) hx hy c1 hl _ _ _ k1.symm k2.symm hwn.symm q6 q7 hcl q8).mono ?_
        rintro e s' ⟨rfl, hsub⟩
        exact ⟨i + 1, by omega, by omega, by rw [hnext, hb, hdr, hll]; exact hsub⟩
  · obtain rfl : (stepsA A).length = i := by omega
    have p0 := hq ((bfsTo A w W (stepsA A).length).drop k)
    have p1 := hd (bfsTo A w W (stepsA A).length)
    generalize waysC A ((bfsTo A w W (stepsA A).length).drop k) = Q1 at *
    generalize dsW (bfsTo A w W (stepsA A).length) = D1 at *
    clear hnx e1 e2 e3 hgs hinv
    refine DW.walk ?_
    exact Nm.mk Sub.auto
end Go.Proofs.Ytichhfbkhnimmaa

set_option linter.unusedSimpArgs false
set_option linter.unusedVariables false
set_option maxHeartbeats 4000000
set_option maxRecDepth 8000
namespace Go.Proofs.Ytichhfbkhnimmaa
open Go Go.RowKit Go.PP Go.Dm Go.Rt Go.Mn
theorem subTrans {N : Nat} {s1 s2 s3 : DS} (h : Dm.Sub N s1 s2) (k : Dm.Sub N s2 s3) : Dm.Sub N s1 s3 := fun w0 M0 B0 a w q => k w0 M0 B0 a w (h w0 M0 B0 a w q)
theorem cutQ {N : Nat} {c y : Code} {s : DS} {Q : Exit → DS → Prop} (S2 : DS) (h1 : DW Try.prog N c s (Thn (fun s' => DW Try.prog N y s' (Nm N S2)) (Nm N S2))) (h2 : ∀ s', Dm.Sub N s' S2 → Q .normal s') : DW Try.prog N c s (Thn (fun s' => DW Try.prog N y s' Q) Q) := h1.mono fun e s' q => by
  cases e with
  | normal => exact DW.mono q (fun e s'' q2 => by obtain ⟨e1, e2⟩ := q2; subst e1; exact h2 s'' e2)
  | _ => exact absurd q.1 (by simp)
theorem dist_walk (A : Au) (hk : chk A = 0) (p q : Int) (hp : InA A p) (hq : InA A q) (d : D) (hyes : ∀ l, DistW A l p q → (∀ g, DistW A g p q → sle l g) → d = .tup [.sl false 3 l.length (spC (wordS A l)), .flat (.bool true), .flat (.int .i64 0)]) (hno : Eqv A p q → d = .tup [.flat (.slice none 0 0), .flat (.bool false), .flat (.int .i64 0)]) :
    DFun Try.prog 20 [auD A, .flat (.int .i64 p), .flat (.int .i64 q)] d := by
  have hok := chk_ok hk
  have hc := check_d A (few_of hok)
  rw [hk] at hc
  have hst := steps_d A hk
  have hstl : (stepsA A).length ≤ 5000000 := by
    have h1 := stQ_len A hok.hi A.ranks.length
    have h2 := hok.alpha.hi
    have h3 : stepsA A = stQ A A.ranks.length := rfl
    rw [h3]; omega
  have hnn := hok.hi
  have hn2 : A.final.length * A.final.length ≤ 262144 := Nat.le_trans (Nat.mul_le_mul hok.hi hok.hi) (by decide)
  have hB0 := BInv.init hp hq
  have hIs := isV_pair p q
  have hN0 : LookN Try.prog 101 [] (kvP p q) := lookW_no hok (W := []) ⟨by simp, fun w h => by cases h⟩ hp hq (by simp)
  have a0 := hp.1
  have a1 := hp.2
  have b0 := hq.1
  have b1 := hq.2
  have hrow := fun (cc cd : Code) (h : selC [1, 1, 1, 1, 1, 0, 1, 2, 2, 1, 0, 2, 1, 1, 0] code20 = some cc) (h2 : selC [1, 1, 1, 1, 1, 0, 1, 2, 2, 1, 0, 2, 1, 1, 1] code20 = some cd) => di_row h h2 A hok hstl p q
  have hfin : ∀ x : Int, InA A x → ∃ t : Nat, x = (t : Int) ∧ t < A.final.length ∧ partD false 1 (t * 1) (A.final.map fun x => D.flat (.bool x)) = some (.flat (.bool (finI A x))) := fun x hx => by
    obtain ⟨t, rfl⟩ := Int.eq_ofNat_of_zero_le hx.1
    have ht : t < A.final.length := by have := hx.2; omega
    refine ⟨t, rfl, ht, part_b ?_⟩
    unfold finI
    rw [Int.toNat_natCast, List.getD_eq_getElem?_getD, List.getElem?_eq_getElem ht]; rfl
  have q1 := pers_i A.ranks
  have q2 := pers_b A.final
  have q3 := pers_r A.to
  have q4 := spC_pers (stepsA A)
  rw [auD_eq] at hc hst ⊢
  have hwp := fun W : List Go.Mn.Way => waysC_pers A W
  have hdp := fun W : List Go.Mn.Way => dsW_pers W
  have o53 := OwnAt.of 53
  have i53 := IdAt.of 53 700
  generalize hSC : spC (stepsA A) = SC at *
  generalize hm : (stepsA A).length = m at *
  generalize (A.ranks.map fun x => D.flat (.int .i64 x)) = LR at *
  generalize (A.final.map fun x => D.flat (.bool x)) = LB at *
  generalize rowsL A.to = LT at *
  generalize hn : A.final.length = n at *
  refine DFun.enterA Try.func20 Try.ntmps20 ?_
  refine DW.walk ?_
  refine DW.loopA (fun X : List Go.Mn.Way × Nat => ⟨[(3, .ptr [.sl false 1 A.ranks.length LR, .sl false 1 n LB, .sl false 1 A.to.length LT] 0), (11, .sl false 3 m SC), (12, .mp 44), (13, .own 700 (X.1.length - X.2))], [(44, some (.box (.keys (ksW X.1) :: dsW X.1))), (700, some (.row 104 3 (X.1.length - X.2) (waysC A (X.1.drop X.2))))]⟩) (fun X => BInv A p q X.2 0 X.1 ∧ X.2 ≤ X.1.length) (fun X => n * n - X.2) ([⟨p, q, []⟩], 0) ?_ ⟨hB0, Nat.zero_le _⟩ (by show Sub _ _ ⟨[(3, .ptr [.sl false 1 A.ranks.length LR, .sl false 1 n LB, .sl false 1 A.to.length LT] 0), (11, .sl false 3 m SC), (12, .mp 44), (13, .own 700 ([(⟨p, q, []⟩ : Go.Mn.Way)].length - 0))], [(44, some (.box [.keys [kvP p q], .flat (.bool true)])), (700, some (.row 104 3 1 [.flat (.int .i64 p), .flat (.int .i64 q), .sl false 3 0 []]))]⟩; exact Sub.auto)
  rintro ⟨W, k⟩ ⟨hB, hkl⟩
  simp only at hB hkl ⊢
  have hfw := hB.few
  rw [hn] at hfw
  rcases Nat.lt_or_ge k W.length with hlt | hge
  · obtain ⟨w, hw⟩ : ∃ w, W[k]? = some w := ⟨W[k], by simp⟩
    have hdr : W.drop k = w :: W.drop (k + 1) := by
      rw [List.drop_eq_getElem_cons hlt]
      congr 1
      rw [List.getElem?_eq_getElem hlt] at hw
      exact Option.some.inj hw
    obtain ⟨hr1, hr2, hr3, hr4, hr5⟩ := hB.run w (List.mem_of_getElem? hw)
    obtain ⟨t, ht, htn, hf1⟩ := hfin w.p hr4
    obtain ⟨u, hu, hun, hf2⟩ := hfin w.q hr5
    have hg := waysC_get A w (W.drop (k + 1))
    have hwl := bInv_len hB k w hw
    have pw := spC_pers (wordS A w.l)
    have p0 := hwp (W.drop k)
    have p1 := hdp W
    rw [← hdr] at hg
    by_cases he : finI A w.p = finI A w.q
    · have hbt := bfsTo_inv hok hB hw m (by omega)
      have hnx := hbt.1
      rw [← hm] at hnx
      have hnext := hnx.next (by rw [hm]; exact hbt.2) he
      rw [hm] at hnext
      have hfew2 := hbt.1.few
      rw [hn] at hfew2
      have hkl2 := (List.getElem?_eq_some_iff.1 hbt.2).1
      have hr := hrow _ _ (by rfl) (by rfl) k W w hB hw
      unfold wayC at hg
      have e3 : bfsTo A w W m = bfsTo A w W m := rfl
      have p2 := hwp ((bfsTo A w W m).drop k)
      have p3 := hdp (bfsTo A w W m)
      have p4 := hwp ((bfsTo A w W m).drop (k + 1))
      have hcut : (waysC A ((bfsTo A w W m).drop k)).drop (1 * 3) = waysC A ((bfsTo A w W m).drop (k + 1)) := by
        rw [List.drop_eq_getElem_cons hkl2]
        exact waysC_drop ..
      generalize hW2 : bfsTo A w W m = W2 at *
      rw [← he] at hf2
      rw [ht, hu] at hg
      rw [ht, hu] at hr
      generalize finI A w.p = f1 at *
      generalize hWL : spC (wordS A w.l) = WL at *
      clear hrow hfin
      generalize hQ0 : waysC A (W.drop k) = Q0 at *
      generalize hD0 : dsW W = D0 at *
      generalize hQ2 : waysC A (W2.drop k) = Q2 at *
      generalize hQ3 : waysC A (W2.drop (k + 1)) = Q3 at *
      generalize hD2 : dsW W2 = D2 at *
      generalize hK2 : ksW W2 = K2 at *
      cases f1
      all_goals
        refine DW.walkTo 15 ?_
        refine DW.sub (s' := ⟨[(3, .ptr [.sl false 1 A.ranks.length LR, .sl false 1 n LB, .sl false 1 A.to.length LT] 0), (11, .sl false 3 m SC), (12, .mp 44), (13, .own 700 (W.length - k)), (14, .ref 14 0)], [(44, some (.box (.keys (ksW W) :: D0))), (700, some (.row 104 3 (W.length - k) Q0)), (14, some (.box [.flat (.int .i64 ((t : Nat) : Int)), .flat (.int .i64 ((u : Nat) : Int)), .sl false 3 w.l.length WL]))]⟩) Sub.auto ?_
        refine cutQ _ hr ?_
        intro s' hsub
        refine (show DW Try.prog 122 _ s' _ from DW.sub hsub ?_)
        refine DW.regR ?_
        refine DC.isOp ?_
        apply DC.is_move
        refine DC.k_move ?_
        refine DC.t (T.cutOwnL (id2 := 701) (l := 1) _ _ _ TySl.h (by first | exact TySz.h | kernel_rfl) (IsN.lit 1 (by decide)) (by omega) (by omega)) ⟨rfl, rfl, trivial⟩ ⟨rfl, rfl, trivial⟩ ?_
        refine DC.walk ?_
        rw [hcut]
        refine ⟨(W2, k + 1), ⟨hnext, by show k + 1 ≤ W2.length; omega⟩, by show n * n - (k + 1) < n * n - k; omega, ?_⟩
        obtain ⟨L2, hL2⟩ : ∃ L2, W2.length - (k + 1) = L2 := ⟨_, rfl⟩
        show Dm.Sub _ _ ⟨[(3, .ptr [.sl false 1 A.ranks.length LR, .sl false 1 n LB, .sl false 1 A.to.length LT] 0), (11, .sl false 3 m SC), (12, .mp 44), (13, .own 700 (W2.length - (k + 1)))], [(44, some (.box (.keys (ksW W2) :: dsW W2))), (700, some (.row 104 3 (W2.length - (k + 1)) (waysC A (W2.drop (k + 1)))))]⟩
        rw [hK2, hD2, hQ3, hL2]
        refine subTrans (s2 := ⟨[(3, .ptr [.sl false 1 A.ranks.length LR, .sl false 1 n LB, .sl false 1 A.to.length LT] 0), (11, .sl false 3 m SC), (12, .mp 44), (13, .own 701 L2)], [(44, some (.box (.keys K2 :: D2))), (701, some (.row 104 3 L2 Q3))]⟩) Sub.auto ?_
        refine subTrans (Sub.ren (t := 13) (b := 700) rfl rfl rfl) ?_
        exact Sub.auto
    · obtain ⟨hd1, hd2⟩ := hB.found hok hp hq hw he
      have hd := hyes w.l hd1 hd2
      subst hd
      unfold wayC at hg
      rw [ht] at hg
      rw [hu] at hg
      generalize finI A w.p = f1 at *
      generalize finI A w.q = f2 at *
      generalize spC (wordS A w.l) = WL at *
      generalize waysC A (W.drop k) = QC at *
      clear hrow hfin hwp hdp
      cases f1 <;> cases f2 <;> first | exact absurd rfl he | skip
      all_goals
        refine DW.walk ?_
        exact ⟨.inr rfl, ResOk.three [] rfl rfl rfl rfl trivial (Vw.pers rfl) (Vw.pers rfl) (Vw.pers rfl)⟩
  · obtain rfl : k = W.length := by omega
    have hd := hno (hB.none hok hp hq)
    subst hd
    have p0 := hwp (W.drop W.length)
    have p1 := hdp W
    generalize waysC A (W.drop W.length) = QC at *
    generalize dsW W = DS at *
    clear hrow hfin hwp hdp
    refine DW.walk ?_
    exact ⟨.inr rfl, ResOk.three [] rfl rfl rfl rfl trivial (Vw.pers rfl) (Vw.pers rfl) (Vw.pers rfl)⟩
end Go.Proofs.Ytichhfbkhnimmaa

set_option linter.unusedSimpArgs false
set_option linter.unusedVariables false
set_option maxHeartbeats 4000000
set_option maxRecDepth 8000
namespace Go.Proofs.Ytichhfbkhnimmaa
open Go Go.RowKit Go.PP Go.Dm Go.Rt Go.Mn
def K1 : Au := ⟨[0, 2], [false, false, false], [[1], [0, 1, 2, 1, 2, 0, 2, 0, 1]]⟩
def K2 : Au := ⟨[0, 2], [true, false, false], [[1], [0, 1, 2, 1, 2, 0, 2, 0, 1]]⟩
theorem kok (f : List Bool) (hf : f.length = 3) : AuOk ⟨[0, 2], f, [[1], [0, 1, 2, 1, 2, 0, 2, 0, 1]]⟩ := by
  refine ⟨⟨by simp, by simp, by simp⟩, by simp only; omega, by simp only; omega, rfl, fun i l k h1 h2 => ?_, fun l hl s hs => ?_⟩
  · simp only at h1 h2 ⊢
    match i, h1, h2 with
    | 0, h1, h2 => simp at h1 h2; subst h1; subst h2; simp [wideN]
    | 1, h1, h2 => simp at h1 h2; subst h1; subst h2; simp [wideN, hf]
    | i + 2, h1, h2 => simp at h1
  · simp only [hf]
    simp at hl
    rcases hl with rfl | rfl <;> simp at hs <;> omega
theorem ka : alphaE [0, 2] = 0 := by decide +kernel
theorem k1_ok : chk K1 = 0 := chk_of ka (kok _ rfl)
theorem k2_ok : chk K2 = 0 := chk_of ka (kok _ rfl)
theorem k1_len : (leastA K1).final.length = 1 := by decide +kernel
theorem k2_nb : nbU (clsU K2) = 3 := by decide +kernel
theorem k2_a : DistW K2 [] 0 1 := ⟨fun i h => (by cases h), by decide +kernel⟩
theorem k2_b : ∃ l, DistW K2 l 1 2 ∧ l.length = 1 := by
  have h : ∃ i, i < (stepsA K2).length ∧ finI K2 (nextL K2 (wordS K2 [i]) 1) ≠ finI K2 (nextL K2 (wordS K2 [i]) 2) := by decide +kernel
  obtain ⟨i, h1, h2⟩ := h
  exact ⟨[i], ⟨fun j hj => by rw [List.mem_singleton] at hj; subst hj; exact h1, h2⟩, rfl⟩
theorem k2_c : finI K2 1 = finI K2 2 := by decide +kernel
end Go.Proofs.Ytichhfbkhnimmaa
