/- Contracts over data: made automata, with any closures. No condition. -/
import Derived.Test.YtichhfbkhnimmaaYD8
import Derived.Test.YtichhfbkhnimmaaYD1
import Derived.Test.YtichhfbkhnimmaaYD5
import Derived.Test.YtichhfbkhnimmaaYD3

set_option linter.unusedSimpArgs false
set_option linter.unusedVariables false
set_option maxHeartbeats 4000000
set_option maxRecDepth 8000
namespace Go.Proofs.Ytichhfbkhnimmaa
open Go Go.RowKit Go.PP Go.Dm Go.Rt Go.Mn
theorem digs_cons (n : Nat) : ∀ j p, digs n (j + 1) p = ((p / n ^ j % n : Nat) : Int) :: digs n j p
  | 0, p => by simp [digs]
  | j + 1, p => by
    rw [digs, digs_cons n j (p / n)]
    have h : p / n / n ^ j = p / n ^ (j + 1) := by rw [Nat.div_div_eq_div_mul, Nat.pow_succ, Nat.mul_comm n]
    rw [h]
    show _ :: digs n j (p / n) ++ [_] = _
    rw [List.cons_append]
    rfl
theorem tables_get {n : Nat} {T : Int → List Int → Int} {rs : List Int} {i : Nat} {k : Int} (h : rs[i]? = some k) : (tablesOf n T rs)[i]? = some (tableOf n T i k) := by
  have hi := (List.getElem?_eq_some_iff.1 h).1
  unfold tablesOf
  rw [List.getElem?_map, List.getElem?_range hi]
  simp [List.getD, h]
theorem set_dig (m : Nat) (x : D) (z : D) (l : List D) : List.take (m * 1) (List.replicate (m + 1) z ++ l) ++ [x] ++ List.drop (m * 1 + 1) (List.replicate (m + 1) z ++ l) = List.replicate m z ++ x :: l := by
  rw [List.replicate_succ', Nat.mul_one]
  simp [List.take_append, List.drop_append]
theorem rows_snoc {t : List (List Int)} {i : Nat} {r : List Int} (h : t[i]? = some r) : rowsL (t.take (i + 1)) = rowsL (t.take i) ++ [.sl false 1 r.length (r.map fun x => D.flat (.int .i64 x))] := by
  rw [List.take_add_one, h]
  simp [rowsL]
theorem made_d (rs : List Int) (n : Nat) (Tt : Int → List Int → Int) (Ff : Nat → Bool) (kt kf : FuncId) (ft ct ff cf : List D)
    (hrs : rs.length ≤ 4096) (hr : ∀ k ∈ rs, 0 ≤ k ∧ k ≤ 2) (hn : n ≤ 512) (hn0 : 0 < n) (hkT : Enters Try.prog kt) (hkF : Enters Try.prog kf)
    (pcT : pers (.clo (.func kt) ft ct) = true) (pcF : pers (.clo (.func kf) ff cf) = true)
    (hpT : ∀ (i k : Nat) (l : List Int), persL (ft ++ [.flat (.int .i64 ((i : Nat) : Int)), .sl false 1 k (l.map fun x => D.flat (.int .i64 x))] ++ ct) = true) (hpF : ∀ s : Nat, persL (ff ++ [.flat (.int .i64 ((s : Nat) : Int))] ++ cf) = true)
    (hT : ∀ (i k p : Nat), rs[i]? = some ((k : Nat) : Int) → p < wideN k n → DFun Try.prog kt (ft ++ [.flat (.int .i64 ((i : Nat) : Int)), .sl false 1 k ((digs n k p).map fun x => D.flat (.int .i64 x))] ++ ct) (.flat (.int .i64 (Tt i (digs n k p)))))
    (hF : ∀ s : Nat, s < n → DFun Try.prog kf (ff ++ [.flat (.int .i64 ((s : Nat) : Int))] ++ cf) (.flat (.bool (Ff s)))) :
    DFun Try.prog 71 [.sl false 1 rs.length (rs.map fun x => D.flat (.int .i64 x)), .flat (.int .i64 ((n : Nat) : Int)), .clo (.func kt) ft ct, .clo (.func kf) ff cf] (auD (madeA rs n Tt Ff)) := by
  have hcl := clone76_d rs (by omega)
  have hprs : ∀ (i : Nat) (x : Int), rs[i]? = some x → partD false 1 (i * 1) (rs.map fun x => D.flat (.int .i64 x)) = some (.flat (.int .i64 x)) := fun i x h => part_i h
  have hlrs := pers_i rs
  have hres : auD (madeA rs n Tt Ff) = .agg [.sl false 1 rs.length (rs.map fun x => D.flat (.int .i64 x)), .sl false 1 n (((List.range n).map Ff).map fun x => D.flat (.bool x)), .sl false 1 rs.length (rowsL (tablesOf n Tt rs))] := by
    rw [auD_eq]
    have h1 : (madeA rs n Tt Ff).final.length = n := made_final_len ..
    have h2 : (madeA rs n Tt Ff).to.length = rs.length := made_to_len ..
    rw [h1, h2]
    rfl
  have htl : (tablesOf n Tt rs).length = rs.length := by simp [tablesOf]
  rw [hres]
  generalize (rs.map fun x => D.flat (.int .i64 x)) = LRS at *
  clear hres
  refine DFun.enterA Try.func71 Try.ntmps71 ?_
  refine DW.walkTo 2 ?_
  refine DW.adoptBox 9 1 103 4 1 rfl rfl rfl ?_
  refine DW.adoptBox 9 2 104 22 1 rfl rfl rfl ?_
  refine DW.walk ?_
  refine DW.loopA (fun j : Nat => ⟨[(22, .flat (.int .i64 ((j : Nat) : Int))), (21, .flat (.int .i64 ((n : Nat) : Int))), (9, .ref 9 0), (8, .ref 8 0), (0, .sl false 1 rs.length LRS), (1, .flat (.int .i64 ((n : Nat) : Int))), (2, .clo (.func kt) ft ct), (3, .clo (.func kf) ff cf)], [(9, some (.box [.sl false 1 rs.length LRS, .own 103 j, .own 104 0])), (103, some (.row 4 1 j (((List.range j).map Ff).map fun x => D.flat (.bool x)))), (104, some (.row 22 1 0 [])), (8, some (.box [.flat (.slice none 0 0), .flat (.slice none 0 0), .flat (.slice none 0 0)]))]⟩) (fun j => j ≤ n) (fun j => n - j) 0 ?_ (Nat.zero_le _)
  intro j hj
  rcases Nat.lt_or_ge j n with hlt | hge
  · have hFj := hF j hlt
    have hpj := hpF j
    have hq : (((List.range j).map Ff).map fun x => D.flat (.bool x)) ++ [.flat (.bool (Ff j))] = (((List.range (j + 1)).map Ff).map fun x => D.flat (.bool x)) := by simp [List.range_succ]
    have hqp := persL_map (f := fun x => D.flat (.bool x)) (fun _ => rfl) ((List.range (j + 1)).map Ff)
    have hol : oneL (((List.range j).map Ff).map fun x => D.flat (.bool x)) = true := oneL_map (fun _ => rfl) _
    generalize hG1 : (((List.range (j + 1)).map Ff).map fun x => D.flat (.bool x)) = G1 at *
    generalize (((List.range j).map Ff).map fun x => D.flat (.bool x)) = G0 at *
    clear hT hpT hF hpF hprs
    refine DW.walk ?_
    rw [hq]
    exact ⟨j + 1, by omega, by omega, by rw [hG1]; exact Sub.auto⟩
  · obtain rfl : n = j := by omega
    have hpB := persL_map (f := fun x => D.flat (.bool x)) (fun _ => rfl) ((List.range n).map Ff)
    generalize (((List.range n).map Ff).map fun x => D.flat (.bool x)) = GB at *
    clear hF hpF hge hj
    refine DW.walk ?_
    refine DW.loopA (fun i : Nat => ⟨[(36, .flat (.int .i64 ((i : Nat) : Int))), (35, .flat (.int .i64 ((rs.length : Nat) : Int))), (34, .sl false 1 rs.length LRS), (9, .ref 9 0), (8, .ref 8 0), (1, .flat (.int .i64 ((n : Nat) : Int))), (2, .clo (.func kt) ft ct)], [(9, some (.box [.sl false 1 rs.length LRS, .own 103 n, .own 104 i])), (103, some (.row 4 1 n GB)), (104, some (.row 22 1 i (rowsL ((tablesOf n Tt rs).take i)))), (8, some (.box [.flat (.slice none 0 0), .flat (.slice none 0 0), .flat (.slice none 0 0)]))]⟩) (fun i => i ≤ rs.length) (fun i => rs.length - i) 0 ?_ (Nat.zero_le _)
    intro i hi
    rcases Nat.lt_or_ge i rs.length with hil | hig
    · obtain ⟨k0, hk0⟩ : ∃ k0, rs[i]? = some k0 := ⟨rs[i], by simp⟩
      have hkr := hr k0 (List.mem_of_getElem? hk0)
      obtain ⟨k, rfl⟩ : ∃ k : Nat, k0 = (k : Int) := ⟨k0.toNat, by omega⟩
      have hk2 : k ≤ 2 := by omega
      have hpt := hprs i _ hk0
      have hwb := wideN_le (k := (k : Int)) (n := n) (by omega) hn
      have hrow : tableOf n Tt i (k : Int) = (List.range (wideN (k : Int) n)).map fun p => Tt i (digs n k p) := by simp [tableOf]
      have hwd := wide_d k n hk2 hn
      have hTk := fun p hp => hT i k p hk0 hp
      have hTp := fun p => hpT i k (digs n k p)
      have hsn := rows_snoc (tables_get (n := n) (T := Tt) hk0)
      rw [hrow] at hsn
      clear hT hpT hprs hcl hrow
      have hpG := pers_r ((tablesOf n Tt rs).take i)
      have hpG1 := pers_r ((tablesOf n Tt rs).take (i + 1))
      generalize hGT : rowsL ((tablesOf n Tt rs).take i) = GT at *
      generalize hGT1 : rowsL ((tablesOf n Tt rs).take (i + 1)) = GT1 at *
      generalize hwe : wideN (k : Int) n = wd at *
      refine DW.walkTo 11 ?_
      refine DW.adopt 13 105 3 1 rfl rfl ?_
      refine DW.walk ?_
      refine DW.loopA (fun p : Nat => ⟨[(44, .flat (.int .i64 ((p : Nat) : Int))), (43, .flat (.int .i64 ((wd : Nat) : Int))), (13, .own 105 p), (12, .flat (.int .i64 ((k : Nat) : Int))), (11, .flat (.int .i64 ((i : Nat) : Int))), (36, .flat (.int .i64 ((i : Nat) : Int))), (35, .flat (.int .i64 ((rs.length : Nat) : Int))), (34, .sl false 1 rs.length LRS), (9, .ref 9 0), (8, .ref 8 0), (1, .flat (.int .i64 ((n : Nat) : Int))), (2, .clo (.func kt) ft ct)], [(105, some (.row 3 1 p (((List.range p).map fun q => Tt i (digs n k q)).map (fun x => D.flat (.int .i64 x))))), (9, some (.box [.sl false 1 rs.length LRS, .own 103 n, .own 104 i])), (103, some (.row 4 1 n GB)), (104, some (.row 22 1 i GT)), (8, some (.box [.flat (.slice none 0 0), .flat (.slice none 0 0), .flat (.slice none 0 0)]))]⟩) (fun p => p ≤ wd) (fun p => wd - p) 0 ?_ (Nat.zero_le _) (by simp only [List.range_zero, List.map_nil]; exact Sub.auto)
      intro p hp
      rcases Nat.lt_or_ge p wd with hpl | hpg
      · have hTq := hTk p hpl
        have hTr := hTp p
        have hq2 : ((List.range p).map fun q => Tt i (digs n k q)).map (fun x => D.flat (.int .i64 x)) ++ [.flat (.int .i64 (Tt i (digs n k p)))] = ((List.range (p + 1)).map fun q => Tt i (digs n k q)).map (fun x => D.flat (.int .i64 x)) := by simp [List.range_succ]
        have hpR1 := pers_i ((List.range (p + 1)).map fun q => Tt i (digs n k q))
        have hpR0 := pers_i ((List.range p).map fun q => Tt i (digs n k q))
        generalize hR1 : ((List.range (p + 1)).map fun q => Tt i (digs n k q)).map (fun x => D.flat (.int .i64 x)) = R1 at *
        generalize hR0 : ((List.range p).map fun q => Tt i (digs n k q)).map (fun x => D.flat (.int .i64 x)) = R0 at *
        clear hTk hTp
        refine DW.walk ?_
        refine DW.loopA (fun q : Nat => ⟨[(16, .flat (.int .i64 ((k : Int) - 1 - q))), (17, .flat (.int .i64 ((p / n ^ q : Nat) : Int))), (15, .own 48 k), (14, .flat (.int .i64 ((p : Nat) : Int))), (44, .flat (.int .i64 ((p : Nat) : Int))), (43, .flat (.int .i64 ((wd : Nat) : Int))), (13, .own 105 p), (12, .flat (.int .i64 ((k : Nat) : Int))), (11, .flat (.int .i64 ((i : Nat) : Int))), (36, .flat (.int .i64 ((i : Nat) : Int))), (35, .flat (.int .i64 ((rs.length : Nat) : Int))), (34, .sl false 1 rs.length LRS), (9, .ref 9 0), (8, .ref 8 0), (1, .flat (.int .i64 ((n : Nat) : Int))), (2, .clo (.func kt) ft ct)], [(48, some (.row 3 1 k (List.replicate (k - q) (.flat (.int .i64 0)) ++ (digs n q p).map (fun x => D.flat (.int .i64 x))))), (105, some (.row 3 1 p R0)), (9, some (.box [.sl false 1 rs.length LRS, .own 103 n, .own 104 i])), (103, some (.row 4 1 n GB)), (104, some (.row 22 1 i GT)), (8, some (.box [.flat (.slice none 0 0), .flat (.slice none 0 0), .flat (.slice none 0 0)]))]⟩) (fun q => q ≤ k) (fun q => k - q) 0 ?_ (Nat.zero_le _) (by simp only [digs, List.map_nil, List.append_nil, Nat.sub_zero, Nat.pow_zero, Nat.div_one, Int.sub_zero]; have hpz := persL_rep (d := .flat (.int .i64 0)) rfl (n := k); generalize (List.replicate k (.flat (.int .i64 0)) : List D) = RZ at *; exact Sub.auto)
        intro q hq
        rcases Nat.lt_or_ge q k with hql | hqg
        · obtain ⟨m, hm⟩ : ∃ m, k = q + m + 1 := ⟨k - q - 1, by omega⟩
          rw [show (k : Int) - 1 - q = (m : Int) by omega, show k - q = m + 1 by omega]
          have hdl := digs_len n q p
          generalize hDG : (digs n q p).map (fun x => D.flat (.int .i64 x)) = DG at *
          have hpp : p / n ^ q ≤ 262144 := Nat.le_trans (Nat.div_le_self _ _) (by omega)
          generalize hpq : p / n ^ q = pq at *
          refine DW.walk ?_
          refine ⟨q + 1, by omega, by omega, ?_⟩
          rw [set_dig, show (k : Int) - 1 - ((q + 1 : Nat) : Int) = (m : Int) - 1 by omega, show k - (q + 1) = m by omega, show (digs n (q + 1) p).map (fun x => D.flat (.int .i64 x)) = .flat (.int .i64 ((pq % n : Nat) : Int)) :: DG by rw [digs_cons, hpq, List.map_cons, hDG], show p / n ^ (q + 1) = pq / n by rw [Nat.pow_succ, ← Nat.div_div_eq_div_mul, hpq]]
          have hpm : persL (List.replicate m (.flat (.int .i64 0)) ++ .flat (.int .i64 ((pq % n : Nat) : Int)) :: DG) = true := persL_append (persL_rep rfl) (by rw [← hDG]; exact pers_i (((pq % n : Nat) : Int) :: digs n q p))
          generalize (List.replicate m (.flat (.int .i64 0)) ++ .flat (.int .i64 ((pq % n : Nat) : Int)) :: DG) = RM at *
          exact Sub.auto
        · obtain rfl : k = q := by omega
          rw [show (k : Int) - 1 - k = -1 by omega, Nat.sub_self, List.replicate_zero, List.nil_append]
          have hpl1 := pers_i (digs n k p)
          generalize (digs n k p).map (fun x => D.flat (.int .i64 x)) = DG at *
          clear hqg
          refine DW.walkTo 19 ?_
          refine DW.sub (s' := ⟨[(15, .sl false 1 k DG), (14, .flat (.int .i64 ((p : Nat) : Int))), (44, .flat (.int .i64 ((p : Nat) : Int))), (43, .flat (.int .i64 ((wd : Nat) : Int))), (13, .own 105 p), (12, .flat (.int .i64 ((k : Nat) : Int))), (11, .flat (.int .i64 ((i : Nat) : Int))), (36, .flat (.int .i64 ((i : Nat) : Int))), (35, .flat (.int .i64 ((rs.length : Nat) : Int))), (34, .sl false 1 rs.length LRS), (9, .ref 9 0), (8, .ref 8 0), (1, .flat (.int .i64 ((n : Nat) : Int))), (2, .clo (.func kt) ft ct)], [(105, some (.row 3 1 p R0)), (9, some (.box [.sl false 1 rs.length LRS, .own 103 n, .own 104 i])), (103, some (.row 4 1 n GB)), (104, some (.row 22 1 i GT)), (8, some (.box [.flat (.slice none 0 0), .flat (.slice none 0 0), .flat (.slice none 0 0)]))]⟩) Sub.auto ?_
          refine DW.walk ?_
          rw [hq2]
          exact ⟨p + 1, by omega, by omega, by rw [hR1]; exact Sub.auto⟩
      · obtain rfl : wd = p := by omega
        have hpR := pers_i ((List.range wd).map fun q => Tt i (digs n k q))
        simp only [List.length_map, List.length_range] at hsn
        generalize ((List.range wd).map fun q => Tt i (digs n k q)).map (fun x => D.flat (.int .i64 x)) = R at *
        refine DW.walkTo 21 ?_
        refine DW.sub (s' := ⟨[(13, .sl false 1 wd R), (36, .flat (.int .i64 ((i : Nat) : Int))), (35, .flat (.int .i64 ((rs.length : Nat) : Int))), (34, .sl false 1 rs.length LRS), (9, .ref 9 0), (8, .ref 8 0), (1, .flat (.int .i64 ((n : Nat) : Int))), (2, .clo (.func kt) ft ct)], [(9, some (.box [.sl false 1 rs.length LRS, .own 103 n, .own 104 i])), (103, some (.row 4 1 n GB)), (104, some (.row 22 1 i GT)), (8, some (.box [.flat (.slice none 0 0), .flat (.slice none 0 0), .flat (.slice none 0 0)]))]⟩) Sub.auto ?_
        refine DW.walk ?_
        rw [← hsn]
        exact ⟨i + 1, by omega, by omega, by rw [hGT1]; exact Sub.auto⟩
    · obtain rfl : i = rs.length := by omega
      rw [List.take_of_length_le (show (tablesOf n Tt rs).length ≤ rs.length by omega)]
      have hpG := pers_r (tablesOf n Tt rs)
      generalize rowsL (tablesOf n Tt rs) = GT at *
      refine DW.walk ?_
      exact ⟨.inr rfl, ResOk.cellA [(103, some (.row 4 1 n GB)), (104, some (.row 22 1 rs.length GT))] rfl rfl rfl TyI.ag TyI.sz ⟨rfl, rfl, trivial⟩ (.cons (Vw.pers (by first | exact hlrs | (show persL _ = true; exact hlrs) | (simp [pers]; done) | (simp [pers]; exact hlrs))) (.cons (Vw.own (.head _) (VwL.pers hpB)) (.cons (Vw.own (.tail _ (.head _)) (VwL.pers hpG)) .nil))) (Le.refl _)⟩
end Go.Proofs.Ytichhfbkhnimmaa

set_option linter.unusedSimpArgs false
set_option linter.unusedVariables false
set_option maxHeartbeats 4000000
set_option maxRecDepth 8000
namespace Go.Proofs.Ytichhfbkhnimmaa
open Go Go.RowKit Go.PP Go.Dm Go.Rt Go.Mn
theorem ixL_len (n : Nat) (l : List Int) : (ixL n l).length = n := by simp [ixL]
theorem idxOf_take {l : List Int} {x : Int} : ∀ {j : Nat}, x ∈ l.take j → (l.take j).idxOf x = l.idxOf x := by
  induction l with
  | nil => intro j h; simp at h
  | cons a l ih =>
    intro j h
    cases j with
    | zero => simp at h
    | succ j =>
      rw [List.take_succ_cons] at h ⊢
      by_cases e : a = x
      · subst e; simp
      · rw [List.idxOf_cons, List.idxOf_cons, show (a == x) = false by simpa using e, cond_false, cond_false, ih]
        rcases List.mem_cons.1 h with h | h
        · exact absurd h.symm e
        · exact h
theorem ixL_set {n : Nat} {l : List Int} {j m : Nat} (hnd : l.Nodup) (hj : l[j]? = some (m : Int)) (hm : m < n) : spliceD ((ixL n (l.take j)).map fun x => D.flat (.int .i64 x)) m [.flat (.int .i64 (j : Int))] = (ixL n (l.take (j + 1))).map fun x => D.flat (.int .i64 x) := by
  rw [splice_set (by simp [ixL_len, hm])]
  refine List.ext_getElem? fun i => ?_
  rw [List.getElem?_set, List.getElem?_map, List.getElem?_map]
  have hlen := ixL_len n (l.take j)
  have hjl := (List.getElem?_eq_some_iff.1 hj).1
  have htk : l.take (j + 1) = l.take j ++ [(m : Int)] := by rw [List.take_add_one, hj]; rfl
  have hno : (m : Int) ∉ l.take j := fun hm' => by
    have h1 := idxOf_take hm'
    rw [idx_at l j _ hnd hj] at h1
    have h2 := List.idxOf_lt_length_of_mem hm'
    rw [h1] at h2; simp at h2; omega
  by_cases hi : m = i
  · subst hi
    rw [if_pos rfl, if_pos (by simp [hlen, hm])]
    have h3 : (m : Int) ∈ l.take (j + 1) := by rw [htk]; simp
    have h4 := idxOf_take h3
    rw [idx_at l j _ hnd hj] at h4
    simp [ixL, hm, h3, h4]
  · rw [if_neg hi]
    by_cases h5 : i < n
    · have h6 : ((i : Int) ∈ l.take (j + 1)) ↔ ((i : Int) ∈ l.take j) := by
        rw [htk]; simp; intro h; omega
      by_cases h7 : (i : Int) ∈ l.take j
      · simp [ixL, h5, h7, h6.2 h7, idxOf_take h7, idxOf_take (h6.2 h7)]
      · have : ¬ (i : Int) ∈ l.take (j + 1) := fun h => h7 (h6.1 h)
        simp [ixL, h5, h7, this]
    · rw [List.getElem?_eq_none (by rw [ixL_len]; omega), List.getElem?_eq_none (by rw [ixL_len]; omega)]
theorem some2_d (A : Au) (hn : A.final.length ≤ 512) (old : List Int) (hr : ∀ s ∈ old, 0 ≤ s ∧ s < (A.final.length : Int)) (hl : old.length ≤ 512) (s : Nat) (hs : s < old.length) : DFun Try.prog 105 [.flat (.int .i64 ((s : Nat) : Int)), .ptr (auC A) 0, .ptr [.sl false 1 old.length (old.map fun x => D.flat (.int .i64 x))] 0] (.flat (.bool (keptF A old s))) := by
  obtain ⟨q, hq⟩ : ∃ q, old[s]? = some q := ⟨old[s], by simp⟩
  have hqr := hr q (List.mem_of_getElem? hq)
  obtain ⟨m, rfl⟩ := Int.eq_ofNat_of_zero_le hqr.1
  have hm : m < A.final.length := by omega
  obtain ⟨b, hb⟩ : ∃ b, A.final[m]? = some b := ⟨A.final[m], by simp⟩
  have hp := part_i hq
  have hp2 := part_b hb
  have hk : keptF A old s = b := by simp [keptF, List.getD, hq, hb]
  rw [hk]
  rw [auC_eq]
  generalize (A.ranks.map fun x => D.flat (.int .i64 x)) = LR at *
  generalize (A.final.map fun x => D.flat (.bool x)) = LB at *
  generalize rowsL A.to = LT at *
  generalize (old.map fun x => D.flat (.int .i64 x)) = LO at *
  refine DFun.enterA Try.func105 Try.ntmps105 ?_
  refine DW.walk ?_
  exact ⟨.inr rfl, ResOk.one [] rfl rfl trivial (Vw.pers rfl)⟩
theorem some1_d (A : Au) (hok : AuOk A) (old : List Int) (hsh : ShutL A old) (i k : Nat) (ds : List Int) (hk : A.ranks[i]? = some (k : Int)) (hdl : ds.length = k) (hdr : ∀ d ∈ ds, 0 ≤ d ∧ d < (old.length : Int)) :
    DFun Try.prog 104 [.flat (.int .i64 ((i : Nat) : Int)), .sl false 1 ds.length (ds.map fun x => D.flat (.int .i64 x)), .ptr [.sl false 1 old.length (old.map fun x => D.flat (.int .i64 x))] 0, .ptr [.sl false 1 (ixL A.final.length old).length ((ixL A.final.length old).map fun x => D.flat (.int .i64 x))] 0, .ptr (auC A) 0] (.flat (.int .i64 (keptT A old i ds))) := by
  have hfit := hsh.fits hk (by omega) hdr
  have hat := at_d A hok i _ hfit
  have hmem := hsh.shut i k ds hk (by omega) hdr
  have hrg := hsh.rng _ hmem
  have hx := ixL_at (n := A.final.length) hmem hrg.1 hrg.2
  have hkt : keptT A old i ds = hasI old (atI A i (ds.map fun d => old.getD d.toNat 0)) := rfl
  rw [hkt, ← hx]
  have hk2 := hok.alpha.rng _ (List.mem_of_getElem? hk)
  have hn := hok.hi
  have hol := hsh.hi
  generalize hf : (ds.map (fun d => old.getD d.toNat 0)) = fr at *
  have hfl : fr.length = ds.length := by rw [← hf]; simp
  generalize hy : atI A i fr = y at *
  obtain ⟨m, rfl⟩ := Int.eq_ofNat_of_zero_le hrg.1
  have hm : m < A.final.length := by omega
  have hix : (ixL A.final.length old).length = A.final.length := by simp [ixL]
  generalize ixL A.final.length old = ix at *
  obtain ⟨z, hz⟩ : ∃ z, ix[m]? = some z := ⟨ix[m], by simp⟩
  have hp := part_i hz
  rw [show ix.getD (m : Int).toNat 0 = z by simp [List.getD, hz]]
  have hpo : ∀ (i : Nat) (x : Int), old[i]? = some x → partD false 1 (i * 1) (old.map fun x => D.flat (.int .i64 x)) = some (.flat (.int .i64 x)) := fun i x h => part_i h
  have hpd : ∀ (i : Nat) (x : Int), ds[i]? = some x → partD false 1 (i * 1) (ds.map fun x => D.flat (.int .i64 x)) = some (.flat (.int .i64 x)) := fun i x h => part_i h
  have hpf := fun j => pers_i (fr.take j)
  have hpfr := pers_i fr
  rw [auC_eq]
  rw [auD_eq] at hat
  generalize (A.ranks.map fun x => D.flat (.int .i64 x)) = LR at *
  generalize (A.final.map fun x => D.flat (.bool x)) = LB at *
  generalize rowsL A.to = LT at *
  generalize (old.map fun x => D.flat (.int .i64 x)) = LO at *
  generalize (ix.map fun x => D.flat (.int .i64 x)) = LI at *
  generalize (ds.map fun x => D.flat (.int .i64 x)) = LD at *
  clear hx hkt hmem hrg hfit hsh hok hy
  refine DFun.enterA Try.func104 Try.ntmps104 ?_
  refine DW.walk ?_
  refine DW.adopt 8 108 3 1 rfl rfl ?_
  refine DW.loopA (fun j : Nat => ⟨[(0, .flat (.int .i64 ((i : Nat) : Int))), (2, .ptr [.sl false 1 old.length LO] 0), (3, .ptr [.sl false 1 ix.length LI] 0), (4, .ptr [.sl false 1 A.ranks.length LR, .sl false 1 A.final.length LB, .sl false 1 A.to.length LT] 0), (8, .own 108 j), (11, .sl false 1 ds.length LD), (12, .flat (.int .i64 ((ds.length : Nat) : Int))), (13, .flat (.int .i64 ((j : Nat) : Int)))], [(108, some (.row 3 1 j ((fr.take j).map fun x => D.flat (.int .i64 x))))]⟩) (fun j => j ≤ ds.length) (fun j => ds.length - j) 0 ?_ (by omega)
  intro j hj
  rcases Nat.lt_or_ge j ds.length with hlt | hge
  · obtain ⟨d, hd⟩ : ∃ d, ds[j]? = some d := ⟨ds[j], by simp⟩
    have hdr2 := hdr d (List.mem_of_getElem? hd)
    obtain ⟨e, rfl⟩ := Int.eq_ofNat_of_zero_le hdr2.1
    have he : e < old.length := by omega
    obtain ⟨q, hq⟩ : ∃ q, old[e]? = some q := ⟨old[e], by simp⟩
    have hfj : fr[j]? = some q := by rw [← hf, List.getElem?_map, hd]; simp [List.getD, hq]
    have hp1 := hpd j _ hd
    have hp2 := hpo e _ hq
    have hrow : (fr.take j).map (fun x => D.flat (.int .i64 x)) ++ [.flat (.int .i64 q)] = (fr.take (j + 1)).map (fun x => D.flat (.int .i64 x)) := by rw [List.take_add_one, hfj]; simp
    have q1 := hpf j
    have q2 := hpf (j + 1)
    generalize hF1 : (fr.take (j + 1)).map (fun x => D.flat (.int .i64 x)) = F1 at *
    generalize hF0 : (fr.take j).map (fun x => D.flat (.int .i64 x)) = F0 at *
    clear hpd hpo hat hdr hpf hpfr hf
    refine DW.walk ?_
    rw [hrow]
    exact ⟨j + 1, by omega, by omega, by rw [hF1]; exact Sub.auto⟩
  · have hje : j = ds.length := by omega
    subst hje
    rw [List.take_of_length_le (by omega)]
    generalize (fr.map fun x => D.flat (.int .i64 x)) = LF at *
    clear hpd hpo hdr hpf hf
    rw [← hfl]
    refine DW.sub (s' := ⟨[(0, .flat (.int .i64 ((i : Nat) : Int))), (2, .ptr [.sl false 1 old.length LO] 0), (3, .ptr [.sl false 1 ix.length LI] 0), (4, .ptr [.sl false 1 A.ranks.length LR, .sl false 1 A.final.length LB, .sl false 1 A.to.length LT] 0), (8, .sl false 1 fr.length LF), (12, .flat (.int .i64 ((fr.length : Nat) : Int))), (13, .flat (.int .i64 ((fr.length : Nat) : Int)))], []⟩) Sub.auto ?_
    refine DW.walk ?_
    exact ⟨.inr rfl, ResOk.one [] rfl rfl trivial (Vw.pers rfl)⟩
theorem some_d (A : Au) (hok : AuOk A) (old : List Int) (hsh : ShutL A old) : DFun Try.prog 69 [auD A, .sl false 1 old.length (old.map fun x => D.flat (.int .i64 x))] (auD (keptA A old)) := by
  have hn := hok.hi
  have hol := hsh.hi
  have hpos := hsh.pos
  have hal := hok.alpha
  have hz : List.replicate A.final.length (D.flat (.int .i64 0)) = (ixL A.final.length (old.take 0)).map fun x => D.flat (.int .i64 x) := by
    refine List.ext_getElem? fun i => ?_
    rw [List.getElem?_map]
    by_cases hi : i < A.final.length
    · simp [ixL, hi]
    · rw [List.getElem?_eq_none (by simp; omega), List.getElem?_eq_none (by rw [ixL_len]; omega)]; rfl
  have hm := made_d A.ranks old.length (keptT A old) (keptF A old) 104 105 [] [.ptr [.sl false 1 old.length (old.map fun x => D.flat (.int .i64 x))] 0, .ptr [.sl false 1 (ixL A.final.length old).length ((ixL A.final.length old).map fun x => D.flat (.int .i64 x))] 0, .ptr (auC A) 0] [] [.ptr (auC A) 0, .ptr [.sl false 1 old.length (old.map fun x => D.flat (.int .i64 x))] 0] hal.hi hal.rng hol hpos EntC.h EntC.h
    (by simp [persL, pers, pers_i, pers_b, pers_r, auC_eq]) (by simp [persL, pers, pers_i, pers_b, pers_r, auC_eq]) (fun i k l => by have := pers_i l; simp [persL, pers, this, pers_i, pers_b, pers_r, auC_eq]) (fun s => by simp [persL, pers, pers_i, pers_b, pers_r, auC_eq])
    (fun i k p hk hp => by
      have h := some1_d A hok old hsh i k _ hk (digs_len _ _ _) (digs_rng hpos k p)
      rw [digs_len] at h
      exact h) (fun s hs => some2_d A hn old hsh.rng hol s hs)
  have hpo : ∀ (i : Nat) (x : Int), old[i]? = some x → partD false 1 (i * 1) (old.map fun x => D.flat (.int .i64 x)) = some (.flat (.int .i64 x)) := fun i x h => part_i h
  have hlen : ∀ j, ((ixL A.final.length (old.take j)).map fun x => D.flat (.int .i64 x)).length = A.final.length := fun j => by simp [ixL_len]
  have hpx := fun j => pers_i (ixL A.final.length (old.take j))
  have hpx1 := pers_i (ixL A.final.length old)
  have hset : ∀ (j m : Nat), old[j]? = some (m : Int) → m < A.final.length → spliceD ((ixL A.final.length (old.take j)).map fun x => D.flat (.int .i64 x)) m [.flat (.int .i64 ((j : Nat) : Int))] = (ixL A.final.length (old.take (j + 1))).map fun x => D.flat (.int .i64 x) := fun j m h1 h2 => ixL_set hsh.nd h1 h2
  have hrg := hsh.rng
  have hpr := pers_i A.ranks
  have hpb := pers_b A.final
  have hpt := pers_r A.to
  have hpold := pers_i old
  have hixl : (ixL A.final.length old).length = A.final.length := by simp [ixL]
  rw [show keptA A old = madeA A.ranks old.length (keptT A old) (keptF A old) from rfl]
  generalize madeA A.ranks old.length (keptT A old) (keptF A old) = Mk at *
  have hq1 := pers_i Mk.ranks
  have hq2 := pers_b Mk.final
  have hq3 := pers_r Mk.to
  rw [auD_eq A, auD_eq Mk]
  rw [auC_eq, auD_eq Mk] at hm
  generalize (Mk.ranks.map fun x => D.flat (.int .i64 x)) = MR at *
  generalize (Mk.final.map fun x => D.flat (.bool x)) = MB at *
  generalize rowsL Mk.to = MT at *
  generalize (A.ranks.map fun x => D.flat (.int .i64 x)) = LR at *
  generalize (A.final.map fun x => D.flat (.bool x)) = LB at *
  generalize rowsL A.to = LT at *
  generalize (old.map fun x => D.flat (.int .i64 x)) = LO at *
  clear hsh hok hal
  refine DFun.enterA Try.func69 Try.ntmps69 ?_
  refine DW.walk ?_
  refine DW.loopA (fun j : Nat => ⟨[(2, .ptr [.sl false 1 A.ranks.length LR, .sl false 1 A.final.length LB, .sl false 1 A.to.length LT] 0), (3, .ptr [.sl false 1 old.length LO] 0), (4, .ref 4 0), (5, .ref 5 0), (12, .sl false 1 old.length LO), (13, .flat (.int .i64 ((old.length : Nat) : Int))), (14, .flat (.int .i64 ((j : Nat) : Int)))], [(4, some (.box [.flat (.slice none 0 0), .flat (.slice none 0 0), .flat (.slice none 0 0)])), (5, some (.box [.own 11 A.final.length])), (11, some (.row 3 1 A.final.length ((ixL A.final.length (old.take j)).map fun x => D.flat (.int .i64 x))))]⟩) (fun j => j ≤ old.length) (fun j => old.length - j) 0 ?_ (Nat.zero_le _) (by have hp0 := hpx 0; rw [← hz] at hp0 ⊢; generalize (List.replicate A.final.length (D.flat (.int .i64 0))) = RZ at *; exact Sub.auto)
  intro j hj
  rcases Nat.lt_or_ge j old.length with hlt | hge
  · obtain ⟨q, hq⟩ : ∃ q, old[j]? = some q := ⟨old[j], by simp⟩
    have hqr := hrg q (List.mem_of_getElem? hq)
    obtain ⟨m, rfl⟩ := Int.eq_ofNat_of_zero_le hqr.1
    have hm2 : m < A.final.length := by omega
    have hp := hpo j _ hq
    have hs := hset j m hq hm2
    unfold spliceD at hs
    have q0 := hlen j
    have q1 := hpx j
    have q2 := hpx (j + 1)
    generalize hX1 : ((ixL A.final.length (old.take (j + 1))).map fun x => D.flat (.int .i64 x)) = X1 at *
    generalize hX0 : ((ixL A.final.length (old.take j)).map fun x => D.flat (.int .i64 x)) = X0 at *
    clear hm hpo hset hlen hpx hrg hz
    have hs1 : List.take (m * 1) X0 ++ [.flat (.int .i64 ((j : Nat) : Int))] ++ List.drop (m * 1 + 1) X0 = X1 := by rw [Nat.mul_one]; exact hs
    refine DW.walk ?_
    rw [hs1]
    exact ⟨j + 1, by omega, by omega, by rw [hX1]; exact Sub.auto⟩
  · have hje : j = old.length := by omega
    subst hje
    rw [List.take_length]
    generalize ((ixL A.final.length old).map fun x => D.flat (.int .i64 x)) = X1 at *
    clear hpo hset hlen hpx hrg hz
    refine DW.walkTo 7 ?_
    refine DW.sub (s' := ⟨[(2, .ptr [.sl false 1 A.ranks.length LR, .sl false 1 A.final.length LB, .sl false 1 A.to.length LT] 0), (3, .ptr [.sl false 1 old.length LO] 0), (4, .ref 4 0), (5, .ref 5 0)], [(4, some (.box [.flat (.slice none 0 0), .flat (.slice none 0 0), .flat (.slice none 0 0)])), (5, some (.box [.sl false 1 A.final.length X1]))]⟩) Sub.auto ?_
    refine DW.sub (s' := ⟨[(2, .ptr [.sl false 1 A.ranks.length LR, .sl false 1 A.final.length LB, .sl false 1 A.to.length LT] 0), (3, .ptr [.sl false 1 old.length LO] 0), (4, .ref 4 0), (5, .ptr [.sl false 1 A.final.length X1] 0)], [(4, some (.box [.flat (.slice none 0 0), .flat (.slice none 0 0), .flat (.slice none 0 0)]))]⟩) Sub.auto ?_
    rw [hixl] at hm
    refine DW.walk ?_
    exact ⟨.inr rfl, ResOk.cellA [] rfl rfl rfl TyI.ag TyI.sz trivial (VwL.pers (by simp [persL, pers, hq1, hq2, hq3])) (Le.refl _)⟩
end Go.Proofs.Ytichhfbkhnimmaa

set_option linter.unusedSimpArgs false
set_option linter.unusedVariables false
set_option maxHeartbeats 4000000
set_option maxRecDepth 8000
namespace Go.Proofs.Ytichhfbkhnimmaa
open Go Go.RowKit Go.PP Go.Dm Go.Rt Go.Mn
theorem trim_d (A : Au) (hA : Few A) : DFun Try.prog 34 [auD A] (.tup [auD (trimE A).1, .flat (.int .i64 (((trimE A).2 : Nat) : Int))]) := by
  have hc := check_d A hA
  by_cases hk : chk A = 0
  · rw [hk] at hc
    rw [trimE_ok hk]
    have hok := chk_ok hk
    have hf := found_d A hok
    have hs := some_d A hok (foundA A) (found_shutL hok (chk_zero hk))
    show DFun Try.prog 34 _ (.tup [auD (keptA A (foundA A)), .flat (.int .i64 ((0 : Nat) : Int))])
    have hfp := pers_i (foundA A)
    generalize keptA A (foundA A) = Mk at *
    generalize foundA A = fo at *
    have q1 := pers_i A.ranks
    have q2 := pers_b A.final
    have q3 := pers_r A.to
    have m1 := pers_i Mk.ranks
    have m2 := pers_b Mk.final
    have m3 := pers_r Mk.to
    rw [auD_eq Mk] at *
    rw [auD_eq A] at *
    generalize (A.ranks.map fun x => D.flat (.int .i64 x)) = LR at *
    generalize (A.final.map fun x => D.flat (.bool x)) = LB at *
    generalize rowsL A.to = LT at *
    generalize (Mk.ranks.map fun x => D.flat (.int .i64 x)) = MR at *
    generalize (Mk.final.map fun x => D.flat (.bool x)) = MB at *
    generalize rowsL Mk.to = MT at *
    generalize (fo.map fun x => D.flat (.int .i64 x)) = LF at *
    refine DFun.enterA Try.func34 Try.ntmps34 ?_
    refine DW.walk ?_
    exact ⟨.inr rfl, ResOk.cellTmpA [] rfl rfl rfl TyI.ag TyI.sz rfl trivial (VwL.pers (by simp [persL, pers, m1, m2, m3])) (Le.refl _) (Vw.pers rfl)⟩
  · have hne : ((chk A : Nat) : Int) ≠ 0 := by omega
    rw [trimE_bad hk]
    show DFun Try.prog 34 _ (.tup [.agg [.sl false 1 0 [], .sl false 1 0 [], .sl false 1 0 []], .flat (.int .i64 ((chk A : Nat) : Int))])
    generalize chk A = ck at *
    have q1 := pers_i A.ranks
    have q2 := pers_b A.final
    have q3 := pers_r A.to
    rw [auD_eq] at *
    generalize (A.ranks.map fun x => D.flat (.int .i64 x)) = LR at *
    generalize (A.final.map fun x => D.flat (.bool x)) = LB at *
    generalize rowsL A.to = LT at *
    refine DFun.enterA Try.func34 Try.ntmps34 ?_
    refine DW.walk ?_
    exact ⟨.inr rfl, ResOk.cellTmpA [] rfl rfl rfl TyI.ag TyI.sz rfl trivial (.cons (Vw.p rfl Le.empty) (.cons (Vw.p rfl Le.empty) (.cons (Vw.p rfl Le.empty) .nil))) (Le.refl _) (Vw.pers rfl)⟩
theorem digs_fits {A : Au} (hok : AuOk A) {i k p : Nat} (hk : A.ranks[i]? = some ((k : Nat) : Int)) : Fits A i (digs A.final.length k p) :=
  ⟨by omega, by have := (List.getElem?_eq_some_iff.1 hk).1; omega, by rw [digs_len]; simp [List.getD, hk], fun x hx => digs_rng hok.lo k p x hx⟩
end Go.Proofs.Ytichhfbkhnimmaa
