/- A machine over data: rows of the call's own appended to one another. No condition. -/
import Derived.Test.YtjmljmappfhiaaaDoorNM
set_option linter.unusedSimpArgs false
set_option linter.unusedVariables false
set_option linter.unusedSectionVars false
set_option maxHeartbeats 400000
namespace Go.Dm
open Go Go.RowKit Go.PP
variable [GlobW]

section
variable {P : Program} {N : Nat} {dst : Option Tmp} {ty : TypeId} {pos : String} {af : Array Edge} {gd : Option (Nat × Bool)}
theorem T.appendOO {id id2 e n L m bytes : Nat} {z : Value} {cs ds : List D} (t : TypeId) (x y : Operand) (ht : P.underlying t = some (.slice e)) (hinfo : (P.info? e).map (fun i => (i.zero, i.size, i.bytes)) = some (some z, n, bytes)) (hzs : z.cells.size = n) (hsz : 0 < n) (hbp : 0 < bytes)
    (ho : oneL ds = true) (hby : (L + m) * bytes ≤ 140737488355328) :
    Tri P N ⟨dst, .call { callee := .builtin .append, args := #[x, y], argTypes := #[t, t] }, ty, pos, af, gd⟩ [(x, .own id L), (y, .own id2 m)] [(id, some (.row e n L cs)), (id2, some (.row e n m ds))] (.own id (L + m)) [(id, some (.row e n (L + m) (cs ++ ds)))] := by
  refine ⟨?_⟩
  intro w0 M0 B0 s a w next Q h1 h2 hd ⟨g, hs⟩ hk
  have he := h2.1
  have hvx := hs.eval x
  have hvy := hs.eval y
  rw [show evalD s.f x = .own id L from h1.1] at hvx
  rw [show evalD s.f y = .own id2 m from h1.2.1] at hvy
  obtain ⟨hu, vs, o1, o2⟩ := own_row hs he hvx
  obtain ⟨hu2, news, n0, n1⟩ := own_row hs h2.2.1 hvy
  obtain ⟨ad, c, r1, r4, n2, n3⟩ : ∃ ad c, a.eval y = .slice ad m c ∧ ds.length = m * n ∧ (ad = none → news = []) ∧ ∀ a, ad = some a → ∀ j u, news[j]? = some u → w.cell? (a.add j) = some u := by
    have hl := n0.1
    rcases own_cells n0 with ⟨q1, q2⟩ | ⟨b, cap, q1, q2, q3, q4⟩
    · subst q2
      exact ⟨none, 0, q1, by rw [n1.length, hl], fun _ => List.eq_nil_of_length_eq_zero (by simpa using hl), fun a h => by cases h⟩
    · exact ⟨_, cap, q1, by rw [n1.length, hl], fun h => (by cases h), fun a ha j u hj => by cases ha; rw [add_off, Nat.zero_add]; exact q4 j u hj⟩
  have hln : news.length = m * n := by rw [← n1.length]; exact r4
  obtain ⟨v', w', hr, p2, p3, p4, p5⟩ := run_appendR (P := P) t t ty e ht hinfo hzs hsz _ L vs o1 _ m news (Src.sl (c := c) ht hln n2 n3) hln (RepL.one ho n1) hby hbp
  unfold Oper.wp
  rw [run_app rfl r1 hr]
  rw [hu] at p3 p4 p5
  exact hk _ _ (hs.grown he o2 n1 p2 p3 p4 p5 hd)
/-- A row of the call's own that is not empty is not nil. -/
theorem own_ne_nil {w0 : World} {M0 : Nat → Prop} {B0 : Bd} {g : Gh} {s : DS} {a : Act} {w : World} (hs : StG w0 M0 B0 N g s a w) {id e n L : Nat} {cs : List D} (he : lkE s.σ id = some (.row e n L cs)) {u : Value} (hu : Rep (Mx M0 g s.σ) w (some (g, s.σ)) (.own id L) u) (hl : 0 < L) : ∃ ad c, u = .slice (some ad) L c := by
  obtain ⟨_, vs, o1, _⟩ := own_row hs he hu
  rcases own_cells o1 with ⟨_, q2⟩ | ⟨b, cap, q1, _⟩
  · omega
  · exact ⟨_, _, q1⟩
theorem T.eqNilO {t e ty' id L e2 n : Nat} {cs : List D} (x : Operand) (ht : P.underlying t = some (.slice e)) (hl : 0 < L) :
    Tri P N ⟨dst, .binOp .eql t x (.const (.slice none 0 0)) ty', ty, pos, af, gd⟩ [(x, .own id L), (.const (.slice none 0 0), .flat (.slice none 0 0))] [(id, some (.row e2 n L cs))] (.flat (.bool false)) [] := Tri.read fun w0 M0 B0 g s a w hs he hv => by
  obtain ⟨ad, c, r1⟩ := own_ne_nil hs he.1 hv.1 hl
  exact ⟨_, w, run_eqNil w a.eval r1 hv.2.one ht ty', Mut.refl _ w, by simp only [Rep]; rfl⟩
theorem T.neqNilO {t e ty' id L e2 n : Nat} {cs : List D} (x : Operand) (ht : P.underlying t = some (.slice e)) (hl : 0 < L) :
    Tri P N ⟨dst, .binOp .neq t x (.const (.slice none 0 0)) ty', ty, pos, af, gd⟩ [(x, .own id L), (.const (.slice none 0 0), .flat (.slice none 0 0))] [(id, some (.row e2 n L cs))] (.flat (.bool true)) [] := Tri.read fun w0 M0 B0 g s a w hs he hv => by
  obtain ⟨ad, c, r1⟩ := own_ne_nil hs he.1 hv.1 hl
  exact ⟨_, w, run_neqNil w a.eval r1 hv.2.one ht ty', Mut.refl _ w, by simp only [Rep]; rfl⟩
/-- An empty row in a slot: nil or not. -/
theorem DW.flattenO {Q : Exit → DS → Prop} {c : Code} {f : Fr} {σ : Sg} (t : Nat) {id : Nat} (ht : lkF f t = .own id 0) (h : ∀ a cap, DW P N c ⟨(t, .flat (.slice a 0 cap)) :: f, σ⟩ Q) : DW P N c ⟨f, σ⟩ Q := by
  refine ⟨fun w0 M0 B0 a w ⟨g, hs⟩ => ?_⟩
  have h1 := hs.tm t
  rw [ht] at h1
  simp only [Rep] at h1
  obtain ⟨_, _, _, _, ad, cap, r1⟩ := h1
  exact (h ad cap).go w0 M0 B0 a w ⟨g, StG.setF hs t _ (by simp only [Rep]; exact r1)⟩
end
theorem RepC.le {M : Nat → Prop} {w : World} {b : Nat} (hM : ∀ b, M b → b < w.heap.size) : ∀ {cs cs' : List D} {off : Nat}, LeL cs cs' → RepC M w b off cs → RepC M w b off cs'
  | [], [], _, _, _ => by simp only [RepC]
  | d :: ds, e :: es, off, hl, h => by
    simp only [RepC] at h ⊢
    obtain ⟨⟨u, h1, h2⟩, h3⟩ := h
    exact ⟨⟨u, h1, hl.1 _ _ _ _ hM h2⟩, RepC.le hM hl.2 h3⟩
  | [], _ :: _, _, h, _ => h.elim
  | _ :: _, [], _, h, _ => h.elim
theorem LeL.length : ∀ {cs cs' : List D}, LeL cs cs' → cs.length = cs'.length
  | [], [], _ => rfl
  | _ :: _, _ :: _, h => by simp [LeL.length h.2]
  | [], _ :: _, h => h.elim
  | _ :: _, [], h => h.elim
theorem Le.slc {full : Bool} {n len : Nat} {cs cs' : List D} (h : LeL cs cs') : Le (.sl full n len cs) (.sl full n len cs') := fun M w G v hM h1 => by
  simp only [Rep] at h1 ⊢
  obtain ⟨a, cap, q1, q2, q3, q4, q5, q6⟩ := h1
  refine ⟨a, cap, q1, q2, q3, by rw [← h.length]; exact q4, q5, ?_⟩
  rcases q6 with q6 | ⟨b, off, r1, r2, r3⟩
  · exact .inl q6
  · exact .inr ⟨b, off, r1, r2, RepC.le hM h r3⟩
theorem LeL.append : ∀ {a b c d : List D}, LeL a b → LeL c d → LeL (a ++ c) (b ++ d)
  | [], [], _, _, _, h => h
  | _ :: _, _ :: _, _, _, h, h2 => ⟨h.1, LeL.append h.2 h2⟩
  | [], _ :: _, _, _, h, _ => h.elim
  | _ :: _, [], _, _, h, _ => h.elim
theorem leL_flat {α : Type} {f g : α → List D} (h : ∀ x, LeL (f x) (g x)) : ∀ l : List α, LeL (l.flatMap f) (l.flatMap g)
  | [] => trivial
  | x :: l => by rw [List.flatMap_cons, List.flatMap_cons]; exact (h x).append (leL_flat h l)
theorem persL_flat {α : Type} {f : α → List D} (h : ∀ x, persL (f x) = true) : ∀ l : List α, persL (l.flatMap f) = true
  | [] => rfl
  | x :: l => by rw [List.flatMap_cons]; exact persL_append (h x) (persL_flat h l)
theorem leL_map {α : Type} {f g : α → D} (h : ∀ x, Le (f x) (g x)) : ∀ l : List α, LeL (l.map f) (l.map g)
  | [] => trivial
  | x :: l => ⟨h x, leL_map h l⟩
end Go.Dm
