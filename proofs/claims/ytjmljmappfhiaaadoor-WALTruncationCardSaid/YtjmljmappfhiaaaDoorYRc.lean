/- Plain laws: recovery. No condition. -/
import Derived.Test.YtjmljmappfhiaaaDoorYY
import Derived.Test.YtjmljmappfhiaaaDoorYPb
import Derived.Test.YtjmljmappfhiaaaDoorYZr
import Derived.Test.YtjmljmappfhiaaaDoorYZe

set_option linter.unusedSimpArgs false
set_option linter.unusedVariables false
set_option maxHeartbeats 1000000
set_option maxRecDepth 8000
namespace Go.Proofs.YtjmljmappfhiaaaDoor
open Go Go.RowKit Go.PP Go.Dm

/-- The entries of the longest prefix that consists of valid encodings. -/
inductive Rec : Bs → List (Bs × Bs) → Prop where
  | none {b : Bs} : (∀ e, ¬ Reads b e) → Rec b []
  | cons {b : Bs} {e : Bs × Bs} {l : List (Bs × Bs)} : Reads b e → Rec (b.drop (encW e).length) l → Rec b (e :: l)
theorem encW_pos (e : Bs × Bs) : 13 ≤ (encW e).length := by
  have := digs_pos 10 e.2.length
  rw [encW_length, headE_len]; omega
theorem rec_ex : ∀ (n : Nat) (b : Bs), b.length ≤ n → ∃ l, Rec b l
  | n, b, hn => by
    by_cases h : ∃ e, Reads b e
    · obtain ⟨e, he⟩ := h
      have h1 := encW_pos e
      have h2 := he.2.length_le
      match n with
      | 0 => omega
      | n + 1 =>
        obtain ⟨l, hl⟩ := rec_ex n (b.drop (encW e).length) (by simp; omega)
        exact ⟨e :: l, .cons he hl⟩
    · exact ⟨[], .none fun e he => h ⟨e, he⟩⟩
theorem Rec.uniq {b : Bs} {l m : List (Bs × Bs)} (h : Rec b l) (k : Rec b m) : l = m := by
  induction h generalizing m with
  | none h => cases k with
    | none => rfl
    | cons h1 _ => exact absurd h1 (h _)
  | cons h1 _ ih => cases k with
    | none h => exact absurd h1 (h _)
    | cons k1 k2 =>
      have := h1.uniq k1
      subst this
      rw [ih k2]
theorem allW_cons (e : Bs × Bs) (l : List (Bs × Bs)) : allW (e :: l) = encW e ++ allW l := by simp [allW]
theorem Rec.pre {b : Bs} {l : List (Bs × Bs)} (h : Rec b l) : allW l <+: b := by
  induction h with
  | none _ => exact List.nil_prefix
  | cons h1 _ ih =>
    obtain ⟨r, hr⟩ := h1.2
    subst hr
    rw [List.drop_left] at ih
    rw [allW_cons]
    exact (List.prefix_append_right_inj _).2 ih
theorem Rec.ok {b : Bs} {l : List (Bs × Bs)} (h : Rec b l) : ∀ e ∈ l, errE e = 0 := by
  induction h with
  | none _ => simp
  | cons h1 _ ih => intro x hx; rcases List.mem_cons.1 hx with rfl | hx; exact h1.1; exact ih x hx
theorem Rec.len {b : Bs} {l : List (Bs × Bs)} (h : Rec b l) : l.length * 13 ≤ b.length := by
  induction h with
  | none _ => simp
  | @cons b e l h1 _ ih =>
    have := h1.2.length_le
    have := encW_pos e
    simp only [List.length_drop] at ih
    simp only [List.length_cons]; omega
theorem Rec.sm {b : Bs} {l : List (Bs × Bs)} (h : Rec b l) (hb : b.length ≤ 60000) : Sm l :=
  ⟨by have := h.len; omega, fun e he => by obtain ⟨h1, h2, _⟩ := err_ok (h.ok e he); exact ⟨h1, h2⟩⟩
/-- What is read at each place. -/
theorem Rec.at {b : Bs} {l : List (Bs × Bs)} (h : Rec b l) : ∀ j, (∀ e, l[j]? = some e → Reads (b.drop (allW (l.take j)).length) e) ∧ (j = l.length → ∀ e, ¬ Reads (b.drop (allW (l.take j)).length) e) := by
  induction h with
  | none h => intro j; exact ⟨fun e he => by simp at he, fun _ => by simpa [allW] using h⟩
  | @cons b e l h1 _ ih =>
    intro j
    cases j with
    | zero => exact ⟨fun f hf => by simp at hf; subst hf; simpa [allW] using h1, fun h => by simp at h⟩
    | succ j =>
      have := ih j
      rw [List.take_succ_cons, allW_cons, List.length_append, ← List.drop_drop]
      exact ⟨fun f hf => this.1 f (by simpa using hf), fun hj => this.2 (by simpa using hj)⟩
theorem Rec.le {b : Bs} {l : List (Bs × Bs)} (h : Rec b l) : ∀ j, (allW (l.take j)).length ≤ b.length := fun j => by
  have h1 := h.pre.length_le
  have h2 : allW (l.take j) <+: allW l := by
    unfold allW
    conv => rhs; rw [← List.take_append_drop j l, List.flatMap_append]
    exact List.prefix_append _ _
  exact Nat.le_trans h2.length_le h1
/-! concatenations -/
theorem rec_all : ∀ {l : List (Bs × Bs)}, (∀ e ∈ l, errE e = 0) → Rec (allW l) l
  | [], _ => .none fun e he => by
    have h1 := he.2.length_le
    have h2 := encW_pos e
    have h3 : (allW []).length = 0 := rfl
    omega
  | e :: l, h => by
    rw [allW_cons]
    exact .cons ⟨h e (List.mem_cons_self ..), List.prefix_append _ _⟩ (by rw [List.drop_left]; exact rec_all fun x hx => h x (List.mem_cons_of_mem _ hx))
theorem allW_app (l m : List (Bs × Bs)) : allW (l ++ m) = allW l ++ allW m := by simp [allW]
theorem good_ok {l : List (Bs × Bs)} : ∀ e ∈ goodE l, errE e = 0 := fun e he => of_decide_eq_true (List.mem_filter.1 he).2
/-- The entries that lie wholly in the first bytes of an encoding. -/
theorem rec_trunc : ∀ {l : List (Bs × Bs)} (k : Nat), (∀ e ∈ l, errE e = 0) → k ≤ (allW l).length → ∃ q, q ≤ l.length ∧ (allW (l.take q)).length ≤ k ∧ (q = l.length ∨ k < (allW (l.take (q + 1))).length) ∧ Rec ((allW l).take k) (l.take q)
  | [], k, _, hk => ⟨0, by simp, by simp [allW], .inl rfl, .none fun e he => by
      have h1 := he.2.length_le
      have h2 := encW_pos e
      have h3 : ((allW []).take k).length = 0 := by simp [allW]
      omega⟩
  | e :: l, k, h, hk => by
    have he := h e (List.mem_cons_self ..)
    rw [allW_cons] at hk ⊢
    rcases Nat.lt_or_ge k (encW e).length with hlt | hge
    · refine ⟨0, by simp, by simp [allW], .inr (by simpa [allW_cons, allW] using hlt), .none fun f hf => ?_⟩
      have hr : Reads (encW e ++ allW l) f := ⟨hf.1, hf.2.trans (List.take_prefix _ _)⟩
      have := hr.uniq ⟨he, List.prefix_append _ _⟩
      subst this
      have h2 := hf.2.length_le
      simp at h2
      omega
    · rw [List.length_append] at hk
      obtain ⟨q, h1, h2, h3, h4⟩ := rec_trunc (l := l) (k - (encW e).length) (fun x hx => h x (List.mem_cons_of_mem _ hx)) (by omega)
      refine ⟨q + 1, by simpa using h1, by simp [allW_cons]; omega, ?_, ?_⟩
      · rcases h3 with h3 | h3
        · exact .inl (by simpa using h3)
        · exact .inr (by rw [List.take_succ_cons, allW_cons, List.length_append]; omega)
      · rw [List.take_succ_cons, List.take_append]
        refine .cons ⟨he, ?_⟩ ?_
        · rw [List.take_of_length_le hge]; exact List.prefix_append _ _
        · rw [List.take_of_length_le hge, List.drop_left]; exact h4
/-- A changed byte ends the recovery. -/
theorem rec_corrupt {l : List (Bs × Bs)} {t r : Bs} (h : ∀ e ∈ l, errE e = 0) (hr : ∀ f, ¬ Reads r f) : Rec (allW l ++ r) l := by
  induction l with
  | nil => exact .none (by simpa [allW] using hr)
  | cons e l ih =>
    rw [allW_cons, List.append_assoc]
    exact .cons ⟨h e (List.mem_cons_self ..), List.prefix_append _ _⟩ (by rw [List.drop_left]; exact ih fun x hx => h x (List.mem_cons_of_mem _ hx))
end Go.Proofs.YtjmljmappfhiaaaDoor

set_option linter.unusedSimpArgs false
set_option linter.unusedVariables false
set_option maxHeartbeats 8000000
set_option maxRecDepth 8000
namespace Go.Proofs.YtjmljmappfhiaaaDoor
open Go Go.RowKit Go.PP Go.Dm

theorem take_sl (b : Bs) (n : Nat) (hn : n ≤ b.length) : D.sl false 1 n ((bD b).take (n * 1)) = bytesD (b.take n) := by
  unfold bytesD
  rw [List.length_take, Nat.min_eq_left hn, Nat.mul_one]
  congr 1
  exact List.map_take.symm
theorem take_bD (b : Bs) (n : Nat) : (bD b).take (n * 1) = bD (b.take n) := by rw [Nat.mul_one]; exact List.map_take.symm
theorem drop_sl (b : Bs) (n : Nat) (hn : n ≤ b.length) : D.sl false 1 (b.length - n) ((bD b).drop (n * 1)) = bytesD (b.drop n) := by
  unfold bytesD
  rw [List.length_drop, Nat.mul_one]
  congr 1
  unfold bD
  rw [← List.map_drop]
theorem recover_d (b : Bs) (hb : b.length ≤ 60000) (l : List (Bs × Bs)) (h : Rec b l) : DFun Tryd.prog 34 [bytesD b] (.tup [.ptr [entsD l] 0, .flat (.int .i64 (allW l).length), .flat (.int .i64 (if (allW l).length < b.length then 19 else 0))]) := by
  have hn := new_l
  have hll := h.len
  refine DFun.enterA Tryd.func34 Tryd.ntmps34 ?_
  refine DW.walk ?_
  refine DW.adoptBox 429496729600001 0 429496729600002 29 2 rfl rfl rfl ?_
  refine DW.cutB ⟨[(0, bytesD b), (5, .ref 429496729600001 0), (6, .flat (.int .i64 (allW l).length))], [(429496729600001, some (.box [.own 429496729600002 l.length])), (429496729600002, some (.row 29 2 l.length (entsC l)))]⟩ ?_ ?_
  · refine DW.loopA (fun j : Nat => ⟨[(0, bytesD b), (5, .ref 429496729600001 0), (6, .flat (.int .i64 (allW (l.take j)).length))], [(429496729600001, some (.box [.own 429496729600002 (l.take j).length])), (429496729600002, some (.row 29 2 (l.take j).length (entsC (l.take j)))), (7, none)]⟩) (fun j => j ≤ l.length) (fun j => l.length - j) 0 ?_ (by omega)
    intro j hj
    have hle := h.le j
    have hat := h.at j
    obtain ⟨x, n, r, hx, hrd⟩ := read_d (b.drop (allW (l.take j)).length) (by simp; omega)
    rw [← drop_sl b _ hle] at hrd
    have htl : (l.take j).length ≤ j := by simp; omega
    have hpe0 := entsC_pers (l.take j)
    rcases Nat.lt_or_ge j l.length with hlt | hge
    · obtain ⟨e, he⟩ : ∃ e, l[j]? = some e := ⟨l[j], by simp⟩
      have hre := hat.1 e he
      rcases hx with ⟨hr, rfl, rfl⟩ | ⟨hno, _⟩
      · have := hr.uniq hre
        subst this
        have hw := allW_take he
        have hwl : ((allW (l.take j)).length : Int) + ((encW x).length : Int) = ((allW (l.take (j + 1))).length : Nat) := by rw [hw]; simp
        have hle2 := h.le (j + 1)
        have hrow := ents_take he
        have hpe := entsC_pers (l.take (j + 1))
        have hlen : (l.take j).length + 1 = (l.take (j + 1)).length := by simp; omega
        have hwp := encW_pos x
        obtain ⟨x1, x2⟩ := x
        generalize hz : encW (x1, x2) = z at hrd hwl hwp
        refine DW.walk ?_
        exact ⟨j + 1, by omega, by omega, Sub.auto⟩
      · exact absurd hre (hno e)
    · have hje : j = l.length := by omega
      subst hje
      rcases hx with ⟨hr, _⟩ | ⟨_, rfl, rfl, rfl⟩
      · exact absurd hr (hat.2 rfl x)
      · rw [List.take_length] at *
        refine DW.walk ?_
        exact ⟨rfl, Sub.auto⟩
  · have hpre := h.pre.length_le
    by_cases hlt : (allW l).length < b.length
    · rw [if_pos hlt]
      refine DW.walk ?_
      exact ⟨.inr rfl, ResOk.three [(429496729600001, some (.box [.own 429496729600002 _])), (429496729600002, some (.row 29 2 _ _))] rfl rfl rfl rfl ⟨rfl, rfl, trivial⟩ (Vw.ref (.head _) (VwL.cons (Vw.own (.tail _ (.head _)) (VwL.pers (entsC_pers _))) VwL.nil) (by intro h; cases h)) (Vw.pers rfl) (Vw.pers rfl)⟩
    · rw [if_neg hlt]
      refine DW.walk ?_
      exact ⟨.inr rfl, ResOk.three [(429496729600001, some (.box [.own 429496729600002 _])), (429496729600002, some (.row 29 2 _ _))] rfl rfl rfl rfl ⟨rfl, rfl, trivial⟩ (Vw.ref (.head _) (VwL.cons (Vw.own (.tail _ (.head _)) (VwL.pers (entsC_pers _))) VwL.nil) (by intro h; cases h)) (Vw.pers rfl) (Vw.pers rfl)⟩
theorem open_d (b : Bs) (hb : b.length ≤ 60000) (l : List (Bs × Bs)) (h : Rec b l) : DFun Tryd.prog 35 [bytesD b] (.tup [entsD l, .flat (.int .i64 (allW l).length)]) := by
  have hll := h.len
  refine DFun.enterA Tryd.func35 Tryd.ntmps35 ?_
  refine DW.walk ?_
  refine DW.adopt 4 4 31 2 rfl rfl ?_
  refine DW.cutB ⟨[(0, bytesD b), (4, .own 4 l.length), (5, .flat (.int .i64 (allW l).length))], [(4, some (.row 31 2 l.length (entsC l)))]⟩ ?_ ?_
  · refine DW.loopA (fun j : Nat => ⟨[(0, bytesD b), (4, .own 4 (l.take j).length), (5, .flat (.int .i64 (allW (l.take j)).length))], [(4, some (.row 31 2 (l.take j).length (entsC (l.take j)))), (6, none)]⟩) (fun j => j ≤ l.length) (fun j => l.length - j) 0 ?_ (by omega)
    intro j hj
    have hle := h.le j
    have hat := h.at j
    obtain ⟨x, n, hx, hrd⟩ := first_d (b.drop (allW (l.take j)).length) (by simp; omega)
    rw [← drop_sl b _ hle] at hrd
    have htl : (l.take j).length ≤ j := by simp; omega
    have hpe0 := entsC_pers (l.take j)
    rcases Nat.lt_or_ge j l.length with hlt | hge
    · obtain ⟨e, he⟩ : ∃ e, l[j]? = some e := ⟨l[j], by simp⟩
      have hre := hat.1 e he
      rcases hx with ⟨hr, rfl⟩ | ⟨hno, _⟩
      · have := hr.uniq hre
        subst this
        have hw := allW_take he
        have hwl : ((allW (l.take j)).length : Int) + ((encW x).length : Int) = ((allW (l.take (j + 1))).length : Nat) := by rw [hw]; simp
        have hle2 := h.le (j + 1)
        have hrow := ents_take he
        have hpe := entsC_pers (l.take (j + 1))
        have hlen : (l.take j).length + 1 = (l.take (j + 1)).length := by simp; omega
        have hwp := encW_pos x
        obtain ⟨x1, x2⟩ := x
        generalize hz : encW (x1, x2) = z at hrd hwl hwp
        refine DW.walk ?_
        exact ⟨j + 1, by omega, by omega, Sub.auto⟩
      · exact absurd hre (hno e)
    · have hje : j = l.length := by omega
      subst hje
      rcases hx with ⟨hr, _⟩ | ⟨_, rfl, rfl⟩
      · exact absurd hr (hat.2 rfl x)
      · rw [List.take_length] at *
        refine DW.walk ?_
        exact ⟨rfl, Sub.auto⟩
  · refine DW.walk ?_
    exact ⟨.inr rfl, ResOk.two [(4, some (.row 31 2 _ _))] rfl rfl rfl ⟨rfl, trivial⟩ (Vw.own (.head _) (VwL.pers (entsC_pers _))) (Vw.pers rfl)⟩
end Go.Proofs.YtjmljmappfhiaaaDoor
