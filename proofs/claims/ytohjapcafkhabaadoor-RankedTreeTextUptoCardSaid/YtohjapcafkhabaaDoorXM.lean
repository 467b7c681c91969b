/- A machine over data: one state for another. No condition. -/
import Derived.Test.YtohjapcafkhabaaDoorXH
import Derived.Laws.Cover3

set_option linter.unusedSimpArgs false
set_option linter.unusedVariables false
set_option linter.unusedSectionVars false
set_option maxHeartbeats 400000
namespace Go.Dm
open Go Go.RowKit Go.PP
variable [GlobW] [Rnd]

section
variable {P : Program} {N : Nat}

/-- A datum for another when some boxes and rows are shut for good. -/
def Vs (σ σ' : Sg) (d d' : D) : Prop := ∀ (w0 : World) (M0 : Nat → Prop) (B0 : Bd) (N : Nat) (g : Gh) (f : Fr) (a : Act) (w : World), StG w0 M0 B0 N g ⟨f, σ⟩ a w → (∀ id b, blkOf g σ' id = some b → blkOf g σ id = some b) → ∀ v, Rep (Mx M0 g σ) w (some (g, σ)) d v → Rep (Mx M0 g σ') w (some (g, σ')) d' v
def VsL (σ σ' : Sg) : List D → List D → Prop
  | [], [] => True
  | d :: ds, e :: es => Vs σ σ' d e ∧ VsL σ σ' ds es
  | _, _ => False
variable {σ σ' : Sg}
theorem Mx.of {M0 : Nat → Prop} {g : Gh} (h : ∀ id b, blkOf g σ' id = some b → blkOf g σ id = some b) (b : Nat) (hb : Mx M0 g σ' b) : Mx M0 g σ b := by
  rcases hb with hb | ⟨id, hb⟩
  · exact .inl hb
  · exact .inr ⟨id, h id b hb⟩
theorem VsL.rep {w0 : World} {M0 : Nat → Prop} {B0 : Bd} {g : Gh} {f : Fr} {a : Act} {w : World} (hs : StG w0 M0 B0 N g ⟨f, σ⟩ a w) (hM : ∀ id b, blkOf g σ' id = some b → blkOf g σ id = some b) : ∀ {ds es : List D} {vs : List Value}, VsL σ σ' ds es → RepL (Mx M0 g σ) w (some (g, σ)) ds vs → RepL (Mx M0 g σ') w (some (g, σ')) es vs
  | [], [], vs, _, h => by simpa only [RepL] using h
  | d :: ds, e :: es, vs, hl, h => by
    simp only [RepL] at h ⊢
    obtain ⟨u, us, h1, h2, h3⟩ := h
    exact ⟨u, us, h1, hl.1 _ _ _ _ _ _ _ _ hs hM _ h2, VsL.rep hs hM hl.2 h3⟩
  | [], _ :: _, _, h, _ => h.elim
  | _ :: _, [], _, h, _ => h.elim
theorem Vs.any (d : D) : Vs σ σ' d .any := fun _ _ _ _ _ _ _ _ _ _ _ _ => by simp only [Rep]
theorem Vs.pers {d : D} (h : Dm.pers d = true) : Vs σ σ' d d := fun w0 M0 B0 N g f a w hs hM v hv => (hv.down d v h).mono (fun b _ h => Mx.of hM b h) |>.up
theorem Vs.eq {d d' : D} (h : d = d') (hp : Dm.pers d' = true) : Vs σ σ' d d' := by subst h; exact Vs.pers hp
theorem Vs.int {k : IntKind} {a b : Int} (h : a = b) : Vs σ σ' (.flat (.int k a)) (.flat (.int k b)) := h ▸ Vs.pers rfl
theorem Vs.le {d d1 d2 : D} (h : Vs σ σ' d d1) (hl : Le d1 d2) : Vs σ σ' d d2 := fun w0 M0 B0 N g f a w hs hM v hv => hl _ _ _ _ (fun b hb => hs.mlt b (Mx.of hM b hb)) (h _ _ _ _ _ _ _ _ hs hM v hv)
theorem Vs.own {id L e n e' n' : Nat} {cs cs' : List D} (h : lkE σ id = some (.row e n L cs)) (h' : lkE σ' id = some (.row e' n' L cs')) : Vs σ σ' (.own id L) (.own id L) := fun w0 M0 B0 N g f a w hs hM v hv => by
  simp only [Rep] at hv ⊢
  obtain ⟨g', σ1, hG, h1, h4⟩ := hv
  cases hG
  exact ⟨g, σ', rfl, .inr ⟨e', n', L, cs', h', Nat.le_refl _, (row_at h h1).2⟩, h4⟩
theorem Vs.dead {id L : Nat} (h' : lkE σ' id = some .dead) : Vs σ σ' (.own id L) (.own id L) := fun w0 M0 B0 N g f a w hs hM v hv => by
  simp only [Rep] at hv ⊢
  obtain ⟨g', σ1, hG, h1, h4⟩ := hv
  cases hG
  exact ⟨g, σ', rfl, .inl h', h4⟩
theorem Vs.ref {id off : Nat} {cs' : List D} (h' : lkE σ' id = some (.box cs')) : Vs σ σ' (.ref id off) (.ref id off) := fun w0 M0 B0 N g f a w hs hM v hv => by
  simp only [Rep] at hv ⊢
  obtain ⟨g', σ1, cs1, hG, h1, h2⟩ := hv
  cases hG
  exact ⟨g, σ', cs', rfl, h', h2⟩
theorem Vs.agg {cs cs' : List D} (h : VsL σ σ' cs cs') : Vs σ σ' (.agg cs) (.agg cs') := fun w0 M0 B0 N g f a w hs hM v hv => by
  simp only [Rep] at hv ⊢
  obtain ⟨vs, q1, q2⟩ := hv
  exact ⟨vs, q1, VsL.rep hs hM h q2⟩
theorem Vs.tup {cs cs' : List D} (h : VsL σ σ' cs cs') : Vs σ σ' (.tup cs) (.tup cs') := fun w0 M0 B0 N g f a w hs hM v hv => by
  simp only [Rep] at hv ⊢
  obtain ⟨vs, q1, q2⟩ := hv
  exact ⟨vs, q1, VsL.rep hs hM h q2⟩
theorem Vs.clo {fn : Fn} {cs cs' es es' : List D} (h : VsL σ σ' cs cs') (h2 : VsL σ σ' es es') : Vs σ σ' (.clo fn cs es) (.clo fn cs' es') := fun w0 M0 B0 N g f a w hs hM v hv => by
  simp only [Rep] at hv ⊢
  obtain ⟨vs, us, q1, q2, q3⟩ := hv
  exact ⟨vs, us, q1, VsL.rep hs hM h q2, VsL.rep hs hM h2 q3⟩
theorem VsL.pers : ∀ {ds : List D}, persL ds = true → VsL σ σ' ds ds
  | [], _ => trivial
  | d :: ds, h => by
    simp only [persL, Bool.and_eq_true] at h
    exact ⟨Vs.pers h.1, VsL.pers h.2⟩
theorem VsL.eq {ds es : List D} (h : ds = es) (hp : persL es = true) : VsL σ σ' ds es := by subst h; exact VsL.pers hp
/-- What is shut may be read for good. -/
theorem Vs.shut {pe : Sg} {d d' : D} (he : Ens σ pe) (h : Vw pe d d') (hd : ∀ id ∈ keys pe, lkE σ' id = none) : Vs σ σ' d d' := fun w0 M0 B0 N g f a w hs hM v hv => by
  refine (Rep.mono (h w0 M0 B0 N g ⟨f, σ⟩ a w hs he v hv) fun b _ hb => ?_).up
  rcases hb with hb | ⟨id, hb⟩
  · exact .inl hb
  · refine .inr ⟨id, fun hk => ?_, hM id b hb⟩
    have := hd id hk
    simp [blkOf, this] at hb

/-- What stays of boxes and rows. -/
def EsOk (σ σ' : Sg) : Sg → Prop
  | [] => True
  | (id, e) :: r => (match e with
      | none => True
      | some .dead => True
      | some (.box cs') => ∃ cs, lkE σ id = some (.box cs) ∧ VsL σ σ' cs cs' ∧ keysOf cs' = keysOf cs
      | some (.row e n L cs') => ∃ cs, lkE σ id = some (.row e n L cs) ∧ VsL σ σ' cs cs') ∧ EsOk σ σ' r
def FsOk (σ σ' : Sg) (f : Fr) : Fr → Prop
  | [] => True
  | (t, d) :: r => Vs σ σ' (lkF f t) d ∧ FsOk σ σ' f r
theorem FsOk.at {f : Fr} : ∀ {f' : Fr}, FsOk σ σ' f f' → ∀ t, Vs σ σ' (lkF f t) (lkF f' t)
  | [], _, t => Vs.any _
  | (k, d) :: r, h, t => by
    rw [lkF_cons]
    by_cases e : k = t
    · rw [if_pos e, ← e]; exact h.1
    · rw [if_neg e]; exact FsOk.at h.2 t
theorem EsOk.at : ∀ {τ : Sg}, EsOk σ σ' τ → ∀ id, (∀ cs', lkE τ id = some (.box cs') → ∃ cs, lkE σ id = some (.box cs) ∧ VsL σ σ' cs cs' ∧ keysOf cs' = keysOf cs) ∧ (∀ e n L cs', lkE τ id = some (.row e n L cs') → ∃ cs, lkE σ id = some (.row e n L cs) ∧ VsL σ σ' cs cs')
  | [], _, id => ⟨fun cs h => by simp [lkE] at h, fun e n L cs h => by simp [lkE] at h⟩
  | (k, x) :: r, h, id => by
    rw [lkE_cons]
    by_cases e : k = id
    · rw [if_pos e]
      subst e
      have h1 := h.1
      refine ⟨fun cs hc => ?_, fun e n L cs hc => ?_⟩
      · subst hc; exact h1
      · subst hc; exact h1
    · rw [if_neg e]; exact EsOk.at h.2 id
theorem Sub.of {f f' : Fr} (h1 : EsOk σ σ' σ') (h2 : FsOk σ σ' f f') : Sub N ⟨f, σ⟩ ⟨f', σ'⟩ := by
  intro w0 M0 B0 a w ⟨g, hs⟩
  have hM : ∀ id b, blkOf g σ' id = some b → blkOf g σ id = some b := fun id b hb => by
    unfold blkOf at hb
    obtain ⟨q1, q2⟩ := h1.at id
    cases he : lkE σ' id with
    | none => rw [he] at hb; cases hb
    | some e =>
      rw [he] at hb
      cases e with
      | box cs' => obtain ⟨cs, q, _⟩ := q1 cs' he; unfold blkOf; rw [q]; exact hb
      | row e n L cs' => obtain ⟨cs, q, _⟩ := q2 e n L cs' he; unfold blkOf; rw [q]; exact hb
      | dead => cases hb
  refine ⟨g, hs.chg, hs.m0, hs.df.step (S := fun _ => False) (Mut.refl _ w) rfl (fun _ _ e => e.elim) (fun id b q _ => ⟨id, hM _ _ q⟩), hs.sz, fun t => h2.at t _ _ _ _ _ _ _ _ hs hM _ (hs.tm t), fun id e he => ?_, fun id id' b q1 q2 => hs.sep id id' b (hM _ _ q1) (hM _ _ q2), fun id b q => hs.new id b (hM _ _ q), fun id => ⟨fun cs q => (by obtain ⟨c, q3, _⟩ := (h1.at id).1 cs q; exact (hs.anc id).1 c q3), fun e n len cs q => (by obtain ⟨c, q3, _⟩ := (h1.at id).2 e n len cs q; exact (hs.anc id).2 _ _ _ _ q3)⟩, hs.glo⟩
  obtain ⟨q1, q2⟩ := h1.at id
  cases e with
  | box cs' =>
    obtain ⟨cs, q, hv, hko⟩ := q1 cs' he
    obtain ⟨vs, T, o1, o2, o4⟩ := hs.ent id _ q
    exact ⟨vs, T, o1, VsL.rep hs hM hv o2, o4.of hko⟩
  | row e n L cs' =>
    obtain ⟨cs, q, hv⟩ := q2 e n L cs' he
    obtain ⟨vs, o1, o2⟩ := hs.ent id _ q
    exact ⟨vs, o1, VsL.rep hs hM hv o2⟩
  | dead => trivial

theorem StG.setF {w0 : World} {M0 : Nat → Prop} {B0 : Bd} {g : Gh} {f : Fr} {a : Act} {w : World} (h : StG w0 M0 B0 N g ⟨f, σ⟩ a w) (t : Nat) (d : D) (hd : Rep (Mx M0 g σ) w (some (g, σ)) d (a.tmps.getD t undef)) : StG w0 M0 B0 N g ⟨(t, d) :: f, σ⟩ a w :=
  ⟨h.chg, h.m0, h.df, h.sz, fun k => by
    rw [lkF_cons]
    by_cases e : t = k
    · subst e; rw [if_pos rfl]; exact hd
    · rw [if_neg e]; exact h.tm k, h.ent, h.sep, h.new, h.anc, h.glo⟩
/-- A nil slice in a slot becomes a row of the call's own. -/
theorem Sub.adopt {f : Fr} (t id : Nat) (e n : Nat) (ht : lkF f t = .flat (.slice none 0 0)) (hi : lkE σ id = none) (hid : newId N id = true := by first | exact rfl | decide +kernel) : Sub N ⟨f, σ⟩ ⟨(t, .own id 0) :: f, (id, some (.row e n 0 [])) :: σ⟩ := by
  intro w0 M0 B0 a w ⟨g, hs⟩
  have hn : ∀ k c, lkE σ k = some c → ¬ id = k := fun k c hk e => by subst e; rw [hi] at hk; cases hk
  have hb0 : blkOf g σ id = none := by unfold blkOf; rw [hi]
  have h1 := hs.set1 (g' := ⟨g.blk, fun k => if k = id then .slice none 0 0 else g.row k⟩) (w' := w) id (.row e n 0 []) (fun _ => hid) (Mut.refl _ w) (fun _ _ => rfl) (fun k hk => by simp [hk])
    ⟨fun k cs hk => ⟨⟨cs, by rw [lkE_cons, if_neg (hn k _ hk)]; exact hk⟩, rfl⟩, fun k e n len cs hk => .inr ⟨e, n, len, cs, by rw [lkE_cons, if_neg (hn k _ hk)]; exact hk, Nat.le_refl _, fun _ => by simp [show ¬ k = id from fun q => hn k _ hk q.symm]⟩, fun k hk => by simp only at hk ⊢; rw [lkE_cons, if_neg (hn k _ hk)]; exact hk⟩
    (fun b hb => by simp [blkOf, lkE_cons, Value.ownBlock] at hb) (fun M hM => ⟨[], by simp only [if_pos]; exact OwnR.nil _ _ _, by simp only [RepL]⟩) (dst := none) rfl (d := .any) (v := undef) (fun M hM => by simp only [Rep])
  have hv := hs.tm t
  rw [ht] at hv
  simp only [Rep] at hv
  refine ⟨_, StG.setF (a := a) (f := f) h1 t (.own id 0) ?_⟩
  simp only [Rep]
  exact ⟨_, _, rfl, .inr ⟨e, n, 0, [], by rw [lkE_cons, if_pos rfl], Nat.le_refl _, fun _ => (by simpa using hv)⟩, none, 0, hv⟩
theorem DW.adopt {Q : Exit → DS → Prop} {c : Code} {f : Fr} (t id : Nat) (e n : Nat) (ht : lkF f t = .flat (.slice none 0 0)) (hi : lkE σ id = none) (h : DW P N c ⟨(t, .own id 0) :: f, (id, some (.row e n 0 [])) :: σ⟩ Q) (hid : newId N id = true := by first | exact rfl | decide +kernel) : DW P N c ⟨f, σ⟩ Q := DW.sub (Sub.adopt t id e n ht hi hid) h

/-! the steps, each with its rule -/
variable {ops : Array Oper}
theorem DSeq.tri {i : Nat} {o : Oper} {l : List Oper} {s s' : DS} {pf : List (Operand × D)} {pe : List (Nat × Option Ent)} {d : D} {we : Sg} {qs : List Sd} (ht : Tri P N o pf pe d we) (h1 : Evs s.f pf) (h2 : Ens s.σ pe)
    (hk : DSeq P N ops (i + 1) l ⟨updF s.f o.dst d, we ++ s.σ⟩ s' qs) (hg : o.guard = none) (hd : dstOk N o.dst = true) : DSeq P N ops i (o :: l) s s' (⟨o.dst, pf, pe, d, we⟩ :: qs) :=
  .cons (fun ho => Stp.tri ho hg hd ht) h1 h2 hk
theorem DSeq.on {i j : Nat} {t : Tmp} {b : Bool} {o : Oper} {l : List Oper} {s s' : DS} {pf : List (Operand × D)} {pe : List (Nat × Option Ent)} {d : D} {we : Sg} {qs : List Sd} (hg : o.guard = some (j, b)) (hj : (ops[j]?).bind (·.dst) = some t) (hb : lkF s.f t = .flat (.bool b)) (ht : Tri P N o pf pe d we) (h1 : Evs s.f pf) (h2 : Ens s.σ pe)
    (hk : DSeq P N ops (i + 1) l ⟨updF s.f o.dst d, we ++ s.σ⟩ s' qs) (hd : dstOk N o.dst = true) : DSeq P N ops i (o :: l) s s' (⟨o.dst, (.tmp t, .flat (.bool b)) :: pf, pe, d, we⟩ :: qs) :=
  .cons (fun ho => Stp.on ho hg hj hd ht) ⟨hb, h1⟩ h2 hk
theorem DSeq.off {i j : Nat} {t : Tmp} {b : Bool} {v : Value} {o : Oper} {l : List Oper} {s s' : DS} {qs : List Sd} (hg : o.guard = some (j, b)) (hj : (ops[j]?).bind (·.dst) = some t) (hv : lkF s.f t = .flat v) (hne : (boolOf v != some b) = true) (htn : t < N % 512)
    (hk : DSeq P N ops (i + 1) l ⟨updF s.f o.dst (.flat undef), s.σ⟩ s' qs) (hd : dstOk N o.dst = true) : DSeq P N ops i (o :: l) s s' (⟨o.dst, [(.tmp t, .flat v)], [], .flat undef, []⟩ :: qs) :=
  .cons (fun ho => Stp.off ho hg hj htn hd hne) ⟨hv, trivial⟩ trivial hk

/-! the same, the state handed on -/
structure DC (P : Program) (N : Nat) (ops : Array Oper) (i : Nat) (l : List Oper) (s : DS) (acc : List Sd) (K : DS → List Sd → Prop) : Prop where
  intro ::
  go : ∃ s' qs, DSeq P N ops i l s s' qs ∧ K s' (acc.reverse ++ qs)
theorem DC.nil {i : Nat} {s : DS} {acc : List Sd} {K : DS → List Sd → Prop} (h : K s acc.reverse) : DC P N ops i [] s acc K := ⟨⟨s, [], .nil, by simpa using h⟩⟩
/-- An operation is not guarded, or its guard lets it through. -/
inductive GuardOk (ops : Array Oper) (o : Oper) (f : Fr) : List (Operand × D) → Prop
  | none (h : o.guard = .none) : GuardOk ops o f []
  | on {j : Nat} {b p : Bool} {t : Tmp} (h : o.guard = some (j, b)) (hj : (ops[j]?).bind (·.dst) = some t) (hv : lkF f t = .flat (.bool p)) (hp : p = b) : GuardOk ops o f [(.tmp t, .flat (.bool b))]
theorem DC.tri {i : Nat} {o : Oper} {l : List Oper} {s : DS} {acc : List Sd} {K : DS → List Sd → Prop} {pf gp : List (Operand × D)} {pe : List (Nat × Option Ent)} {d : D} {we : Sg} (ht : Tri P N o pf pe d we) (h1 : Evs s.f pf) (h2 : Ens s.σ pe)
    (hk : DC P N ops (i + 1) l ⟨updF s.f o.dst d, we ++ s.σ⟩ (⟨o.dst, gp ++ pf, pe, d, we⟩ :: acc) K) (hg : GuardOk ops o s.f gp) (hd : dstOk N o.dst = true) : DC P N ops i (o :: l) s acc K := by
  obtain ⟨s', qs, q1, q2⟩ := hk.go
  refine ⟨?_⟩
  cases hg with
  | none h => exact ⟨s', _, DSeq.tri ht h1 h2 q1 h hd, by simpa using q2⟩
  | on h hj hv hp => subst hp; exact ⟨s', _, DSeq.on h hj hv ht h1 h2 q1 hd, by simpa using q2⟩
theorem DC.off {i j : Nat} {t : Tmp} {b : Bool} {v : Value} {o : Oper} {l : List Oper} {s : DS} {acc : List Sd} {K : DS → List Sd → Prop} (hg : o.guard = some (j, b)) (hj : (ops[j]?).bind (·.dst) = some t) (hv : lkF s.f t = .flat v) (hne : (boolOf v != some b) = true) (htn : t < N % 512)
    (hk : DC P N ops (i + 1) l ⟨updF s.f o.dst (.flat undef), s.σ⟩ (⟨o.dst, [(.tmp t, .flat v)], [], .flat undef, []⟩ :: acc) K) (hd : dstOk N o.dst = true) : DC P N ops i (o :: l) s acc K := by
  obtain ⟨s', qs, q1, q2⟩ := hk.go
  refine ⟨?_⟩
  exact ⟨s', _, DSeq.off hg hj hv hne htn q1 hd, by simpa using q2⟩
theorem DC.offB {i j : Nat} {t : Tmp} {b p : Bool} {o : Oper} {l : List Oper} {s : DS} {acc : List Sd} {K : DS → List Sd → Prop} (hg : o.guard = some (j, b)) (hj : (ops[j]?).bind (·.dst) = some t) (hv : lkF s.f t = .flat (.bool p)) (hp : p = !b) (htn : t < N % 512)
    (hk : DC P N ops (i + 1) l ⟨updF s.f o.dst (.flat undef), s.σ⟩ (⟨o.dst, [(.tmp t, .flat (.bool p))], [], .flat undef, []⟩ :: acc) K) (hd : dstOk N o.dst = true) : DC P N ops i (o :: l) s acc K :=
  DC.off hg hj hv (by subst hp; cases b <;> rfl) htn hk hd
theorem DW.regionC {Q : Exit → DS → Prop} {s : DS} {id : Nat} {l : List Oper} (h : DC P N l.toArray 0 l s [] (fun s' _ => Q .normal s')) : DW P N (.region id l.toArray false) s Q := by
  obtain ⟨s', qs, q1, q2⟩ := h.go
  exact DW.region q1 q2
theorem DW.drawnC {Q : Exit → DS → Prop} {s : DS} {id : Nat} {l : List Oper} (hm : P.follows .mixedOrders = true) (hlt : ((List.range l.length).all fun i => ((l[i]?).map fun o => o.after.all fun e => !Region.binds .any e || decide (e.on < i)).getD true) = true)
    (h : DC P N l.toArray 0 l s [] (fun s' qs => rOk (masks .any l []) (qs.map Sd.fp) = true ∧ Q .normal s')) : DW P N (.region id l.toArray true) s Q := by
  obtain ⟨s', qs, q1, q2, q3⟩ := h.go
  exact DW.drawn q1 hm q2 hlt q3
end
end Go.Dm

set_option linter.unusedSimpArgs false
set_option linter.unusedVariables false
set_option linter.unusedSectionVars false
set_option maxHeartbeats 400000
namespace Go.Dm
open Go Go.RowKit Go.PP
variable [GlobW] [Rnd]

section
variable {P : Program} {N : Nat} {dst : Option Tmp} {ty : TypeId} {pos : String} {af : Array Edge} {gd : Option (Nat × Bool)}

/-- The field i of a struct type: where it lies, of how many cells. -/
def FieldAt (P : Program) (t i off n : Nat) : Prop := ∃ fs f, P.underlying t = some (.struct fs) ∧ fs[i]? = some f ∧ f.offset = off ∧ sizeOfT P f.type = some n ∧ aggOf P f.type = some (decide (1 < n))
theorem T.fieldRef' {id off n k : Nat} (t : TypeId) (x : Operand) (i : Nat) (h : FieldAt P t i k n) (h0 : n ≠ 0) :
    Tri P N ⟨dst, .fieldAddr t x i, ty, pos, af, gd⟩ [(x, .ref id off)] [] (.ref id (off + k)) [] := by
  obtain ⟨fs, f, h1, h2, rfl, h3, _⟩ := h
  exact T.fieldRef t x i h1 h2 h3 h0
theorem T.fieldPtr' {off n k : Nat} {cs : List D} (t : TypeId) (x : Operand) (i : Nat) (h : FieldAt P t i k n) (h0 : n ≠ 0) :
    Tri P N ⟨dst, .fieldAddr t x i, ty, pos, af, gd⟩ [(x, .ptr cs off)] [] (.ptr cs (off + k)) [] := by
  obtain ⟨fs, f, h1, h2, rfl, h3, _⟩ := h
  exact T.fieldPtr t x i h1 h2 h3 h0
theorem T.field1 {k : Nat} {cs : List D} {d : D} (t : TypeId) (x : Operand) (i : Nat) (h : FieldAt P t i k 1) (hd : cs[k]? = some d) :
    Tri P N ⟨dst, .field t x i, ty, pos, af, gd⟩ [(x, .agg cs)] [] d [] := by
  obtain ⟨fs, f, h1, h2, rfl, h3, h4⟩ := h
  exact T.field t x i h1 h2 h4 h3 (by simpa [partD] using hd)

theorem T.pickT {d : D} (c x y : Operand) : Tri P N ⟨dst, .pick c x y, ty, pos, af, gd⟩ [(c, .flat (.bool true)), (x, d)] [] d [] := Tri.val fun M w G ρ h =>
  ⟨ρ x, by simp [execOp, h.one, asBool], h.2.1⟩
theorem T.pickF {d : D} (c x y : Operand) : Tri P N ⟨dst, .pick c x y, ty, pos, af, gd⟩ [(c, .flat (.bool false)), (y, d)] [] d [] := Tri.val fun M w G ρ h =>
  ⟨ρ y, by simp [execOp, h.one, asBool], h.2.1⟩
theorem T.pickT' {d : D} {p : Bool} (c x y : Operand) (hp : p = true) : Tri P N ⟨dst, .pick c x y, ty, pos, af, gd⟩ [(c, .flat (.bool p)), (x, d)] [] d [] := by subst hp; exact T.pickT c x y
theorem T.pickF' {d : D} {p : Bool} (c x y : Operand) (hp : p = false) : Tri P N ⟨dst, .pick c x y, ty, pos, af, gd⟩ [(c, .flat (.bool p)), (y, d)] [] d [] := by subst hp; exact T.pickF c x y
theorem T.minI {k : IntKind} {a b c : Int} (ts : Array TypeId) (x y : Operand) (h : (if b < a then b else a) = c) : Tri P N ⟨dst, .call { callee := .builtin .min, args := #[x, y], argTypes := ts }, ty, pos, af, gd⟩ [(x, .flat (.int k a)), (y, .flat (.int k b))] [] (.flat (.int k c)) [] := Tri.val fun M w G ρ hv => by
  refine ⟨.int k c, ?_, by simp only [Rep]⟩
  rw [← h]
  simp [execOp, resolve, invoke, builtin, Builtin.min_, Builtin.min2, hv.one, hv.2.one]
theorem T.maxI {k : IntKind} {a b c : Int} (ts : Array TypeId) (x y : Operand) (h : (if b > a then b else a) = c) : Tri P N ⟨dst, .call { callee := .builtin .max, args := #[x, y], argTypes := ts }, ty, pos, af, gd⟩ [(x, .flat (.int k a)), (y, .flat (.int k b))] [] (.flat (.int k c)) [] := Tri.val fun M w G ρ hv => by
  refine ⟨.int k c, ?_, by simp only [Rep]⟩
  rw [← h]
  simp [execOp, resolve, invoke, builtin, Builtin.max_, Builtin.max2, hv.one, hv.2.one]
/-! lists of data -/
def intsD (l : List Int) : D := .sl false 1 l.length (l.map fun x => .flat (.int .i64 x))
def boolsD (l : List Bool) : D := .sl false 1 l.length (l.map fun x => .flat (.bool x))
def rowsD (l : List (List Int)) : D := .sl false 1 l.length (l.map intsD)
def intD (x : Int) : D := .flat (.int .i64 x)
def boolD (x : Bool) : D := .flat (.bool x)
theorem persL_map {α : Type} {f : α → D} (hf : ∀ x, pers (f x) = true) : ∀ l : List α, persL (l.map f) = true
  | [] => rfl
  | x :: l => by simp [persL, hf, persL_map hf l]
theorem oneL_map {α : Type} {f : α → D} (hf : ∀ x, oneD (f x) = true) : ∀ l : List α, oneL (l.map f) = true
  | [] => rfl
  | x :: l => by simp [oneL, hf, oneL_map hf l]
theorem part_map {α : Type} {f : α → D} {l : List α} {j : Nat} {y : α} (h : l[j]? = some y) : partD false 1 ((j : Int).toNat * 1) (l.map f) = some (f y) := by simp [partD, h]
theorem part_map0 {α : Type} {f : α → D} {l : List α} {j : Nat} {y : α} (h : l[j]? = some y) : partD false 1 j (l.map f) = some (f y) := by simp [partD, h]
theorem part_map1 {α : Type} {f : α → D} {l : List α} {j : Nat} {y : α} (h : l[j]? = some y) : partD false 1 (j * 1) (l.map f) = some (f y) := by simp [partD, h]

/-! ints in range -/
theorem w64 {a : Int} (h : -9223372036854775808 ≤ a) (h2 : a ≤ 9223372036854775807) : IntKind.i64.wrap a = a := IntWalk.i64_in a ⟨h, h2⟩
theorem quo64 {a b : Int} (ha : 0 ≤ a) (hb : 0 < b) (h : a ≤ 9223372036854775807) : IntKind.i64.wrap (a.tdiv b) = a / b := by
  rw [Int.tdiv_eq_ediv_of_nonneg ha]
  have h1 : 0 ≤ a / b := Int.ediv_nonneg ha (by omega)
  have h2 : a / b ≤ a := Int.ediv_le_self b ha
  exact w64 (by omega) (by omega)
theorem rem64 {a b : Int} (ha : 0 ≤ a) : a.tmod b = a % b := Int.tmod_eq_emod_of_nonneg ha
end

section
variable {P : Program} {N : Nat} {R : DS → Prop} {Q : Exit → DS → Prop} {s s' : DS} {ops : Array Oper}
theorem DC.nilN {i : Nat} {acc : List Sd} {K : DS → List Sd → Prop} (hs : s = s') (h : K s' acc.reverse) : DC P N ops i [] s acc K := by subst hs; exact DC.nil h
theorem DW.condT' {p : Bool} {c : Operand} {x y : Code} (hc : evalD s.f c = .flat (.bool p)) (hp : p = true) (h : DW P N x s Q) : DW P N (.cond c x y) s Q := by subst hp; exact DW.condT hc h
theorem DW.condF' {p : Bool} {c : Operand} {x y : Code} (hc : evalD s.f c = .flat (.bool p)) (hp : p = false) (h : DW P N y s Q) : DW P N (.cond c x y) s Q := by subst hp; exact DW.condF hc h
theorem Thn.n (h : R s) : Thn R Q .normal s := h
theorem Thn.e {id : Nat} (h : Q (.exit id) s) : Thn R Q (.exit id) s := h
theorem Thn.r (h : Q .ret s) : Thn R Q .ret s := h
theorem Blk.n {id : Nat} (h : Q .normal s) : Blk id Q .normal s := h
theorem Blk.r {id : Nat} (h : Q .ret s) : Blk id Q .ret s := h
theorem Blk.here {id : Nat} (h : Q .normal s) : Blk id Q (.exit id) s := by simp only [Blk, if_true]; exact h
theorem Blk.pass {id id' : Nat} (hn : Nat.beq id' id = false) (h : Q (.exit id') s) : Blk id Q (.exit id') s := by
  have hne : ¬ id' = id := fun e => by subst e; simp at hn
  simp only [Blk, hne, if_false]; exact h
end

section
variable {P : Program} {N : Nat} {f f' : Fr} {σ σ' : Sg}
/-- A loop that changes no box and no row: the slots alone. -/
theorem Sub.frame (h2 : FsOk [] [] f f') : Sub N ⟨f, []⟩ ⟨f', []⟩ := Sub.of trivial h2
theorem Vs.nil {b : Bool} {n : Nat} : Vs σ σ' (.flat (.slice none 0 0)) (.sl b n 0 []) := Vs.le (Vs.pers rfl) (Le.nil b n)
end

section
variable {P : Program} {N : Nat} {f : Fr} {σ : Sg}
theorem RepL.set {M : Nat → Prop} {w : World} {G : Cx} : ∀ {ds : List D} {vs : List Value} {k : Nat} {d : D}, RepL M w G ds vs → (∀ u, vs[k]? = some u → Rep M w G d u) → RepL M w G (ds.set k d) vs
  | [], vs, k, d, h, _ => by simpa using h
  | e :: ds, vs, 0, d, h, hd => by
    simp only [RepL] at h
    obtain ⟨u, us, rfl, h2, h3⟩ := h
    simp only [List.set_cons_zero, RepL]
    exact ⟨u, us, rfl, hd u (by simp), h3⟩
  | e :: ds, vs, k + 1, d, h, hd => by
    simp only [RepL] at h
    obtain ⟨u, us, rfl, h2, h3⟩ := h
    simp only [List.set_cons_succ, RepL]
    exact ⟨u, us, rfl, h2, RepL.set h3 (fun u' hu => hd u' (by simpa using hu))⟩
theorem keysOf_set {cs : List D} {k : Nat} {d e : D} (hk : cs[k]? = some d) (hd : oneD d = true) (he : oneD e = true) : keysOf (cs.set k e) = keysOf cs := by
  cases cs with
  | nil => rfl
  | cons c r =>
    cases k with
    | zero =>
      simp at hk; subst hk
      cases c <;> first | (simp [oneD] at hd; done) | (cases e <;> first | rfl | (simp [oneD] at he; done))
    | succ k => cases c <;> rfl
/-- A nil slice in a box becomes a row of the call's own. -/
theorem Sub.adoptBox (id k rid : Nat) (e n : Nat) {cs : List D} (hb : lkE σ id = some (.box cs)) (hk : cs[k]? = some (.flat (.slice none 0 0))) (hi : lkE σ rid = none) (hid : newId N rid = true := by first | exact rfl | decide +kernel) : Sub N ⟨f, σ⟩ ⟨f, (id, some (.box (cs.set k (.own rid 0)))) :: (rid, some (.row e n 0 [])) :: σ⟩ := by
  intro w0 M0 B0 a w ⟨g, hs⟩
  have hn : ∀ k c, lkE σ k = some c → ¬ rid = k := fun k c hk e => by subst e; rw [hi] at hk; cases hk
  have hb0 : blkOf g σ rid = none := by unfold blkOf; rw [hi]
  have hG : Grow (g, σ) (⟨g.blk, fun k => if k = rid then .slice none 0 0 else g.row k⟩, (rid, some (.row e n 0 [])) :: σ) :=
    ⟨fun k cs hk => ⟨⟨cs, by rw [lkE_cons, if_neg (hn k _ hk)]; exact hk⟩, rfl⟩, fun k e n len cs hk => .inr ⟨e, n, len, cs, by rw [lkE_cons, if_neg (hn k _ hk)]; exact hk, Nat.le_refl _, fun _ => by simp [show ¬ k = rid from fun q => hn k _ hk q.symm]⟩, fun k hk => by simp only at hk ⊢; rw [lkE_cons, if_neg (hn k _ hk)]; exact hk⟩
  have h1 : StG w0 M0 B0 N ⟨g.blk, fun k => if k = rid then .slice none 0 0 else g.row k⟩ ⟨f, (rid, some (.row e n 0 [])) :: σ⟩ a w := hs.set1 (g' := ⟨g.blk, fun k => if k = rid then .slice none 0 0 else g.row k⟩) (w' := w) rid (.row e n 0 []) (fun _ => hid) (Mut.refl _ w) (fun _ _ => rfl) (fun k hk => by simp [hk]) hG
    (fun b hb => by simp [blkOf, lkE_cons, Value.ownBlock] at hb) (fun M hM => ⟨[], by simp only [if_pos]; exact OwnR.nil _ _ _, by simp only [RepL]⟩) (dst := none) rfl (d := .any) (v := undef) (fun M hM => by simp only [Rep])
  generalize hg1 : (⟨g.blk, fun k => if k = rid then .slice none 0 0 else g.row k⟩ : Gh) = g1 at h1
  have hrow : g1.row rid = .slice none 0 0 := by rw [← hg1]; simp
  have hne : ¬ rid = id := hn id _ hb
  have hb1 : lkE ((rid, some (.row e n 0 [])) :: σ) id = some (.box cs) := by rw [lkE_cons, if_neg hne]; exact hb
  have hbk : ∀ x, blkOf g1 ((id, some (.box (cs.set k (.own rid 0)))) :: (rid, some (.row e n 0 [])) :: σ) x = blkOf g1 ((rid, some (.row e n 0 [])) :: σ) x := fun x => by
    rw [blkOf_cons]
    by_cases e1 : id = x
    · subst e1; rw [if_pos rfl]; unfold blkOf; rw [hb1]
    · rw [if_neg e1]
  have hG2 : Grow (g1, (rid, some (.row e n 0 [])) :: σ) (g1, (id, some (.box (cs.set k (.own rid 0)))) :: (rid, some (.row e n 0 [])) :: σ) :=
    ⟨fun x c hx => by
      by_cases e1 : id = x
      · subst e1; exact ⟨⟨_, by rw [lkE_cons, if_pos rfl]⟩, rfl⟩
      · exact ⟨⟨c, by rw [lkE_cons, if_neg e1]; exact hx⟩, rfl⟩, fun x e1 n1 l1 c1 hx => by
      have : ¬ id = x := fun q => by subst q; simp only at hx; rw [hb1] at hx; cases hx
      exact .inr ⟨e1, n1, l1, c1, by rw [lkE_cons, if_neg this]; exact hx, Nat.le_refl _, fun _ => rfl⟩, fun x hx => by
      have : ¬ id = x := fun q => by subst q; simp only at hx; rw [hb1] at hx; cases hx
      simp only at hx ⊢; rw [lkE_cons, if_neg this]; exact hx⟩
  have hMx : ∀ b, Mx M0 g1 ((id, some (.box (cs.set k (.own rid 0)))) :: (rid, some (.row e n 0 [])) :: σ) b → Mx M0 g1 ((rid, some (.row e n 0 [])) :: σ) b := by
    rintro b (h | ⟨x, h⟩)
    · exact .inl h
    · exact .inr ⟨x, by rw [← hbk]; exact h⟩
  have st : ∀ d v, Rep (Mx M0 g1 ((rid, some (.row e n 0 [])) :: σ)) w (some (g1, (rid, some (.row e n 0 [])) :: σ)) d v → Rep (Mx M0 g1 ((id, some (.box (cs.set k (.own rid 0)))) :: (rid, some (.row e n 0 [])) :: σ)) w (some (g1, (id, some (.box (cs.set k (.own rid 0)))) :: (rid, some (.row e n 0 [])) :: σ)) d v :=
    fun d v h => h.step (S := fun _ => False) (G := some _) (G' := some _) hG2 (Mut.refl _ w) (fun _ _ e => e.elim) (fun b _ h => hMx b h)
  have stL : ∀ ds vs, RepL (Mx M0 g1 ((rid, some (.row e n 0 [])) :: σ)) w (some (g1, (rid, some (.row e n 0 [])) :: σ)) ds vs → RepL (Mx M0 g1 ((id, some (.box (cs.set k (.own rid 0)))) :: (rid, some (.row e n 0 [])) :: σ)) w (some (g1, (id, some (.box (cs.set k (.own rid 0)))) :: (rid, some (.row e n 0 [])) :: σ)) ds vs :=
    fun ds vs h => RepL.step (S := fun _ => False) (G := some _) (G' := some _) hG2 (Mut.refl _ w) (fun _ _ e => e.elim) (fun b _ h => hMx b h) ds vs h
  refine ⟨g1, h1.chg, h1.m0, h1.df.step (S := fun _ => False) (Mut.refl _ w) rfl (fun _ _ e => e.elim) (fun x b q _ => ⟨x, by rw [← hbk]; exact q⟩), h1.sz, fun t => st _ _ (h1.tm t), fun x ex hx => ?_, fun x x' b q1 q2 => h1.sep x x' b (by rw [← hbk]; exact q1) (by rw [← hbk]; exact q2), fun x b q => h1.new x b (by rw [← hbk]; exact q), h1.anc.grow hG2 (fun x q1 q2 => (by
    by_cases e1 : id = x
    · subst e1; rw [hb1] at q1; cases q1
    · rw [lkE_cons, if_neg e1] at q2; exact absurd q1 q2)), h1.glo⟩
  simp only [lkE_cons] at hx
  by_cases e1 : id = x
  · rw [if_pos e1] at hx
    subst e1
    cases hx
    obtain ⟨vs, T, o1, o2, o4⟩ := h1.ent id _ hb1
    refine ⟨vs, T, o1, RepL.set (stL _ _ o2) (fun u hu => ?_), o4.of (keysOf_set hk rfl rfl)⟩
    obtain ⟨u', hu', hr⟩ := o2.get k hk
    rw [hu] at hu'
    cases hu'
    simp only [Rep] at hr ⊢
    subst hr
    exact ⟨g1, _, rfl, .inr ⟨e, n, 0, [], by rw [lkE_cons, if_neg (fun q => hne q.symm), lkE_cons, if_pos rfl], Nat.le_refl _, fun _ => hrow.symm⟩, none, 0, rfl⟩
  · rw [if_neg e1, ← lkE_cons] at hx
    have := h1.ent x ex hx
    cases ex with
    | box c => obtain ⟨vs, T, o1, o2, o4⟩ := this; exact ⟨vs, T, o1, stL _ _ o2, o4⟩
    | row e2 n2 l2 c => obtain ⟨vs, o1, o2⟩ := this; exact ⟨vs, o1, stL _ _ o2⟩
    | dead => trivial
theorem DW.adoptBox {Q : Exit → DS → Prop} {c : Code} (id k rid e n : Nat) {cs : List D} (hb : lkE σ id = some (.box cs)) (hk : cs[k]? = some (.flat (.slice none 0 0))) (hi : lkE σ rid = none) (h : DW P N c ⟨f, (id, some (.box (cs.set k (.own rid 0)))) :: (rid, some (.row e n 0 [])) :: σ⟩ Q) (hid : newId N rid = true := by first | exact rfl | decide +kernel) : DW P N c ⟨f, σ⟩ Q := DW.sub (Sub.adoptBox id k rid e n hb hk hi hid) h
end

theorem persL_append : ∀ {l r : List D}, persL l = true → persL r = true → persL (l ++ r) = true
  | [], r, _, h => h
  | d :: ds, r, h1, h2 => by
    simp only [persL, Bool.and_eq_true] at h1
    simp only [List.cons_append, persL, Bool.and_eq_true]
    exact ⟨h1.1, persL_append h1.2 h2⟩
theorem persL_rep {d : D} (h : pers d = true) : ∀ {n : Nat}, persL (List.replicate n d) = true
  | 0 => rfl
  | n + 1 => by simp only [List.replicate_succ, persL, h, persL_rep h, Bool.and_self]
theorem VwL.nil {pe : Sg} : VwL pe [] [] := trivial
theorem VwL.cons {pe : Sg} {d e : D} {ds es : List D} (h : Vw pe d e) (t : VwL pe ds es) : VwL pe (d :: ds) (e :: es) := ⟨h, t⟩
theorem Vw.p {pe : Sg} {d e : D} (hp : Dm.pers d = true) (hl : Le d e) : Vw pe d e := Vw.le (Vw.pers hp) hl
theorem LeL.nil : LeL [] [] := trivial
theorem LeL.cons {d e : D} {ds es : List D} (h : Le d e) (t : LeL ds es) : LeL (d :: ds) (e :: es) := ⟨h, t⟩
theorem Vs.refl {σ : Sg} (d : D) : Vs σ σ d d := fun _ _ _ _ _ _ _ _ _ _ _ hv => hv
theorem VsL.refl {σ : Sg} : ∀ ds : List D, VsL σ σ ds ds
  | [] => trivial
  | d :: ds => ⟨Vs.refl d, VsL.refl ds⟩
/-- The slots alone. -/
theorem Sub.slots {N : Nat} {f f' : Fr} {σ : Sg} (h : FsOk σ σ f f') : Sub N ⟨f, σ⟩ ⟨f', σ⟩ := fun w0 M0 B0 a w ⟨g, hs⟩ =>
  ⟨g, hs.chg, hs.m0, hs.df, hs.sz, fun t => h.at t _ _ _ _ _ _ _ _ hs (fun _ _ h => h) _ (hs.tm t), hs.ent, hs.sep, hs.new, hs.anc, hs.glo⟩
theorem LeL.rfl' {ds : List D} : LeL ds ds := LeL.refl ds
theorem T.buildSl0 {P : Program} {N : Nat} {dst : Option Tmp} {ty : TypeId} {pos : String} {af : Array Edge} {gd : Option (Nat × Bool)} {n e : Nat} {z : Value} (t : TypeId) (ht : P.underlying t = some (.slice e)) (hz : zeroT P e = some z) (hn : sizeOfT P e = some n) :
    Tri P N ⟨dst, .buildSlice t 0 #[], ty, pos, af, gd⟩ [] [] (.sl true n 0 []) [] :=
  T.buildSl t [] ht hz hn (by omega) (by omega) (fun base hb => by simp at hb; subst hb; rfl) rfl (by simp)

/-! from what stands in memory to lists -/
theorem ints_of_rep {M : Nat → Prop} {w : World} {l : List Int} {v : Value} (h : Rep M w none (intsD l) v) : Ints M w v l := by
  unfold intsD at h
  simp only [Rep] at h
  obtain ⟨a, cap, rfl, h2, _, h4, h5, h6⟩ := h
  refine ⟨a, cap, by simp, by simpa using h5, fun i hi => ?_⟩
  have hi' : i < l.length := by simpa using hi
  rcases h6 with h6 | ⟨b, off, rfl, q1, q2⟩
  · omega
  · obtain ⟨u, hu, hr⟩ := q2.get i (d := .flat (.int .i64 l[i])) (by simp [hi'])
    simp only [Rep] at hr
    subst hr
    exact ⟨b, off, _, rfl, q1, by simp [hi'], hu⟩
theorem bools_of_rep {M : Nat → Prop} {w : World} {l : List Bool} {v : Value} (h : Rep M w none (boolsD l) v) : SliceIn M w v (l.map Value.bool) := by
  unfold boolsD at h
  simp only [Rep] at h
  obtain ⟨a, cap, rfl, h2, _, h4, h5, h6⟩ := h
  refine ⟨a, cap, by simp, by simpa using h5, fun i hi => ?_⟩
  have hi' : i < l.length := by simpa using hi
  rcases h6 with h6 | ⟨b, off, rfl, q1, q2⟩
  · omega
  · obtain ⟨u, hu, hr⟩ := q2.get i (d := .flat (.bool l[i])) (by simp [hi'])
    simp only [Rep] at hr
    subst hr
    exact ⟨b, off, _, rfl, q1, by simp [hi'], hu⟩
theorem rows_of_rep {M : Nat → Prop} {w : World} {l : List (List Int)} {v : Value} (h : Rep M w none (rowsD l) v) : IntsL M w v l := by
  unfold rowsD at h
  simp only [Rep] at h
  obtain ⟨a, cap, rfl, h2, _, h4, h5, h6⟩ := h
  rcases h6 with h6 | ⟨b, off, rfl, q1, q2⟩
  · have hl : l.length = 0 := by omega
    obtain rfl := List.eq_nil_of_length_eq_zero hl
    exact ⟨[], ⟨a, cap, by simp, by simp, fun i hi => by simp at hi⟩, rfl, fun i v' xs h => by simp at h⟩
  · obtain ⟨vs, r1, r2⟩ := RepC.vals q2
    have hlen := r1.length
    simp only [List.length_map] at hlen
    refine ⟨vs, ⟨some ⟨b, off, none⟩, cap, by rw [hlen], by omega, fun i hi => ⟨b, off, vs[i], rfl, q1, by simp, r2 i _ (by simp)⟩⟩, hlen.symm, fun i v' xs e1 e2 => ?_⟩
    obtain ⟨u, hu, hr⟩ := r1.get i (d := intsD xs) (by simp [e2])
    rw [e1] at hu
    cases hu
    exact ints_of_rep hr
theorem part_all {cs : List D} : partD true cs.length 0 cs = some (.agg cs) := by simp [partD]
theorem ResOk.cellA {P : Program} {fn : Func} {s : DS} {x : Tmp} {t id : Nat} {cs cs' : List D} {d' : D} (pe : Sg) (hr : fn.results = #[.cell x t]) (hx : lkF s.f x = .ref id 0) (hi : lkE s.σ id = some (.box cs)) (hb : aggOf P t = some true) (hn : sizeOfT P t = some cs.length) (he : Ens s.σ pe) (h : VwL pe cs cs') (hd : Le (.agg cs') d') (hk : keysOf cs = none := by first | rfl | assumption) : ResOk P fn s d' :=
  ResOk.cell pe hr hx hi hb hn part_all he (Vw.le (Vw.agg h) hd) hk
theorem ResOk.cellTmpA {P : Program} {fn : Func} {s : DS} {x u : Tmp} {t id : Nat} {cs cs' : List D} {d' e e' : D} (pe : Sg) (hr : fn.results = #[.cell x t, .tmp u]) (hx : lkF s.f x = .ref id 0) (hi : lkE s.σ id = some (.box cs)) (hb : aggOf P t = some true) (hn : sizeOfT P t = some cs.length) (hu : lkF s.f u = e) (he : Ens s.σ pe) (h : VwL pe cs cs') (hd : Le (.agg cs') d') (h2 : Vw pe e e') (hk : keysOf cs = none := by first | rfl | assumption) : ResOk P fn s (.tup [d', e']) :=
  ResOk.cellTmp pe hr hx hi hb hn part_all hu he (Vw.le (Vw.agg h) hd) h2 hk
end Go.Dm

set_option linter.unusedSimpArgs false
set_option linter.unusedVariables false
set_option linter.unusedSectionVars false
set_option maxHeartbeats 400000
namespace Go.Dm
open Go Go.RowKit Go.PP
variable [GlobW] [Rnd]

section
variable {P : Program} {N : Nat} {dst : Option Tmp} {ty : TypeId} {pos : String} {af : Array Edge} {gd : Option (Nat × Bool)}
theorem run_eqNil {t e : TypeId} {x : Operand} {a : Option Addr} {l c : Nat} (w : World) (ρ : Operand → Value) (hx : ρ x = .slice a l c) (hn : ρ (.const (.slice none 0 0)) = .slice none 0 0) (ht : P.underlying t = some (.slice e)) (ty' : TypeId) :
    (execOp ρ ⟨dst, .binOp .eql t x (.const (.slice none 0 0)) ty', ty, pos, af, gd⟩).run P w = .ok (.value (.bool a.isNone)) w := by
  simp [execOp, hx, hn, eqGuard, binOp, run_equal_slice_nil w t e a l c ht]
theorem run_neqNil {t e : TypeId} {x : Operand} {a : Option Addr} {l c : Nat} (w : World) (ρ : Operand → Value) (hx : ρ x = .slice a l c) (hn : ρ (.const (.slice none 0 0)) = .slice none 0 0) (ht : P.underlying t = some (.slice e)) (ty' : TypeId) :
    (execOp ρ ⟨dst, .binOp .neq t x (.const (.slice none 0 0)) ty', ty, pos, af, gd⟩).run P w = .ok (.value (.bool (!a.isNone))) w := by
  simp [execOp, hx, hn, eqGuard, binOp, run_equal_slice_nil w t e a l c ht]
theorem T.eqNilF {t e ty' : TypeId} {a : Option Addr} {l c : Nat} (x : Operand) (ht : P.underlying t = some (.slice e)) :
    Tri P N ⟨dst, .binOp .eql t x (.const (.slice none 0 0)) ty', ty, pos, af, gd⟩ [(x, .flat (.slice a l c)), (.const (.slice none 0 0), .flat (.slice none 0 0))] [] (.flat (.bool a.isNone)) [] := Tri.val fun M w G ρ hv =>
  ⟨_, run_eqNil w ρ hv.one hv.2.one ht ty', by simp only [Rep]⟩
theorem T.eqNilS {t e ty' : TypeId} {f : Bool} {n len : Nat} {cs : List D} (x : Operand) (ht : P.underlying t = some (.slice e)) (hl : 0 < len) (hn : 0 < n) :
    Tri P N ⟨dst, .binOp .eql t x (.const (.slice none 0 0)) ty', ty, pos, af, gd⟩ [(x, .sl f n len cs), (.const (.slice none 0 0), .flat (.slice none 0 0))] [] (.flat (.bool false)) [] := Tri.val fun M w G ρ hv => by
  have q1 := hv.1
  simp only [Rep] at q1
  obtain ⟨a, cap, r1, _, _, _, _, r6⟩ := q1
  rcases r6 with r6 | ⟨b, o, rfl, _⟩
  · have := Nat.mul_pos hl hn; omega
  · exact ⟨_, run_eqNil w ρ r1 hv.2.one ht ty', by simp only [Rep]; rfl⟩
theorem Le.empty {a : Option Addr} {c n : Nat} : Le (.flat (.slice a 0 c)) (.sl false n 0 []) := fun M w G v _ h => by
  simp only [Rep] at h ⊢
  exact ⟨a, c, h, Nat.zero_le _, fun e => (by cases e), by simp, by omega, .inl (by simp)⟩
/-- An empty slice in a slot: nil or not. -/
theorem DW.flatten {Q : Exit → DS → Prop} {c : Code} {f : Fr} {σ : Sg} (t : Nat) {q : Bool} {n : Nat} {cs : List D} (ht : lkF f t = .sl q n 0 cs) (h : ∀ a cap, DW P N c ⟨(t, .flat (.slice a 0 cap)) :: f, σ⟩ Q) : DW P N c ⟨f, σ⟩ Q := by
  refine ⟨fun w0 M0 B0 a w ⟨g, hs⟩ => ?_⟩
  have h1 := hs.tm t
  rw [ht] at h1
  simp only [Rep] at h1
  obtain ⟨ad, cap, r1, _⟩ := h1
  exact (h ad cap).go w0 M0 B0 a w ⟨g, StG.setF hs t _ (by simp only [Rep]; exact r1)⟩
end
theorem T.eqlSame {P : Program} {N : Nat} {dst : Option Tmp} {ty : TypeId} {pos : String} {af : Array Edge} {gd : Option (Nat × Bool)} {a : Bool} {t ty' : TypeId} (x y : Operand) (ht : P.underlying t = some .bool) : Tri P N ⟨dst, .binOp .eql t x y ty', ty, pos, af, gd⟩ [(x, .flat (.bool a)), (y, .flat (.bool a))] [] (.flat (.bool true)) [] := Tri.val fun M w G ρ hv => by
  have he : (Op.equal t (.bool a) (.bool a)).run P w = .ok (a == a) w := run_equalIn_bool w _ t a a ht
  exact ⟨.bool true, by simp [execOp, hv.one, hv.2.one, eqGuard, binOp, he], by simp only [Rep]⟩
theorem T.neqSame {P : Program} {N : Nat} {dst : Option Tmp} {ty : TypeId} {pos : String} {af : Array Edge} {gd : Option (Nat × Bool)} {a : Bool} {t ty' : TypeId} (x y : Operand) (ht : P.underlying t = some .bool) : Tri P N ⟨dst, .binOp .neq t x y ty', ty, pos, af, gd⟩ [(x, .flat (.bool a)), (y, .flat (.bool a))] [] (.flat (.bool false)) [] := Tri.val fun M w G ρ hv => by
  have he : (Op.equal t (.bool a) (.bool a)).run P w = .ok (a == a) w := run_equalIn_bool w _ t a a ht
  exact ⟨.bool false, by simp [execOp, hv.one, hv.2.one, eqGuard, binOp, he], by simp only [Rep]⟩
theorem T.buildA1 {P : Program} {N : Nat} {dst : Option Tmp} {ty : TypeId} {pos : String} {af : Array Edge} {gd : Option (Nat × Bool)} {len e n : Nat} {z : Value} {cs : List D} {i : Nat} {d : D} (t : TypeId) (x : Operand) (ht : P.underlying t = some (.array len e)) (hz : zeroT P t = some z) (hn : sizeOfT P e = some n)
    (h : fillD (fun i => some (i * n, n)) (flats z.cells) [(i, d)] = some cs) : Tri P N ⟨dst, .build t #[(i, x)], ty, pos, af, gd⟩ [(x, d)] [] (.agg cs) [] := T.buildA t [(i, x, d)] ht hz hn h
theorem T.buildA4 {P : Program} {N : Nat} {dst : Option Tmp} {ty : TypeId} {pos : String} {af : Array Edge} {gd : Option (Nat × Bool)} {len e n : Nat} {z : Value} {cs : List D} {i i2 i3 i4 : Nat} {d d2 d3 d4 : D} (t : TypeId) (x x2 x3 x4 : Operand) (ht : P.underlying t = some (.array len e)) (hz : zeroT P t = some z) (hn : sizeOfT P e = some n)
    (h : fillD (fun i => some (i * n, n)) (flats z.cells) [(i, d), (i2, d2), (i3, d3), (i4, d4)] = some cs) : Tri P N ⟨dst, .build t #[(i, x), (i2, x2), (i3, x3), (i4, x4)], ty, pos, af, gd⟩ [(x, d), (x2, d2), (x3, d3), (x4, d4)] [] (.agg cs) [] := T.buildA t [(i, x, d), (i2, x2, d2), (i3, x3, d3), (i4, x4, d4)] ht hz hn h
end Go.Dm

set_option linter.unusedSimpArgs false
set_option linter.unusedVariables false
set_option linter.unusedSectionVars false
set_option maxHeartbeats 400000
namespace Go.Dm
open Go Go.RowKit Go.PP
variable [GlobW]

theorem fnd_lk {u : Sg} {k : Nat} {x : Option Ent} (h : fnd u k = some x) : lkE u k = x := by
  have := lkE_app u [] k
  rw [List.append_nil, h] at this
  simpa using this
theorem fnd_lk0 {u : Sg} {k : Nat} (h : fnd u k = none) : lkE u k = none := by
  have := lkE_app u [] k
  rw [List.append_nil, h] at this
  simpa [lkE] using this
theorem fnd_ens {σ : Sg} {k : Nat} {x : Option Ent} : ∀ {u : Sg}, Ens σ u → fnd u k = some x → lkE σ k = x
  | [], _, h => by simp [fnd] at h
  | (a, b) :: r, he, h => by
    simp only [fnd] at h
    by_cases e : a = k
    · subst e; simp at h; rw [← h]; exact he.1
    · have hb : (a == k) = false := by
        cases hb : (a == k) with
        | false => rfl
        | true => exact absurd (eq_of_beq hb) e
      simp [hb, e] at h; exact fnd_ens he.2 h
theorem fnd_keys {k : Nat} : ∀ {u v : Sg}, keys u = keys v → (fnd u k).isSome = (fnd v k).isSome
  | [], [], _ => rfl
  | [], _ :: _, h => by simp [keys] at h
  | _ :: _, [], h => by simp [keys] at h
  | (a, b) :: r, (a', b') :: r', h => by
    simp only [keys, List.map_cons, List.cons.injEq] at h
    obtain ⟨rfl, h⟩ := h
    simp only [fnd]
    have ih := fnd_keys (k := k) (u := r) (v := r') h
    cases (a == k) <;> simp [ih]
theorem fnd_all {k : Nat} : ∀ {u : Sg}, (u.all fun p => p.2.isSome) = true → (fnd u k).isSome = true → lkE u k ≠ none
  | [], _, h => by simp [fnd] at h
  | (a, b) :: r, ha, h => by
    simp only [List.all_cons, Bool.and_eq_true] at ha
    simp only [fnd] at h
    simp only [lkE]
    cases hb : (a == k)
    · simp only [hb, cond_false] at h ⊢; exact fnd_all ha.2 h
    · simp only [cond_true]; intro e; rw [e] at ha; simp at ha

/-- Boxes and rows lie as they are said to. -/
structure Hold (M0 : Nat → Prop) (w : World) (g : Gh) (σ : Sg) : Prop where
  ent : ∀ id e, lkE σ id = some e → EntOk (Mx M0 g σ) w g σ id e
  sep : ∀ id id' b, blkOf g σ id = some b → blkOf g σ id' = some b → id = id'
  new : ∀ id b, blkOf g σ id = some b → b < w.heap.size ∧ ¬ M0 b
def LendPost (M0 : Nat → Prop) (w : World) (g : Gh) (pe we : Sg) (d : D) (e : Ending) (w' : World) : Prop :=
  ∃ v g', e = .returned v ∧ Mut (fun b => ∃ id, blkOf g pe id = some b) w w' ∧ Grow (g, pe) (g', we) ∧ Hold M0 w' g' we ∧
    (∀ id b, blkOf g' we id = some b → b < w.heap.size → ∃ id', blkOf g pe id' = some b) ∧ Rep (Mx M0 g' we) w' (some (g', we)) d v
/-- The contract of a call that is lent memory. -/
structure DLend (P : Program) (k : FuncId) (args : List D) (pe we : Sg) (d : D) : Prop where
  intro ::
  go : ∀ (M0 : Nat → Prop) (g : Gh) (w : World) (vals : List Value), (∀ b, M0 b → b < w.heap.size) → Hold M0 w g pe → RepL (Mx M0 g pe) w (some (g, pe)) args vals → GlOk w (fun b => ∃ id, blkOf g pe id = some b) → Calls P k vals.toArray w (LendPost M0 w g pe we d)

/-- A datum seen from the lent part alone. -/
def Vl (pe : Sg) (d d' : D) : Prop := ∀ (M : Nat → Prop) (w : World) (g : Gh) (σ : Sg), Ens σ pe → (∀ b, M b → b < w.heap.size) → ∀ v, Rep M w (some (g, σ)) d v → Rep M w (some (g, pe)) d' v
def VlL (pe : Sg) : List D → List D → Prop
  | [], [] => True
  | d :: ds, e :: es => Vl pe d e ∧ VlL pe ds es
  | _, _ => False
variable {pe : Sg}
theorem VlL.rep {M : Nat → Prop} {w : World} {g : Gh} {σ : Sg} (he : Ens σ pe) (hM : ∀ b, M b → b < w.heap.size) : ∀ {ds es : List D} {vs : List Value}, VlL pe ds es → RepL M w (some (g, σ)) ds vs → RepL M w (some (g, pe)) es vs
  | [], [], vs, _, h => by simpa only [RepL] using h
  | d :: ds, e :: es, vs, hl, h => by
    simp only [RepL] at h ⊢
    obtain ⟨u, us, h1, h2, h3⟩ := h
    exact ⟨u, us, h1, hl.1 M w g σ he hM _ h2, VlL.rep he hM hl.2 h3⟩
  | [], _ :: _, _, h, _ => h.elim
  | _ :: _, [], _, h, _ => h.elim
theorem Vl.pers {d : D} (h : Dm.pers d = true) : Vl pe d d := fun M w g σ _ _ v hv => (hv.down d v h).up
theorem Vl.le {d d1 d2 : D} (h : Vl pe d d1) (hl : Le d1 d2) : Vl pe d d2 := fun M w g σ he hM v hv => hl _ _ _ _ hM (h M w g σ he hM v hv)
theorem Vl.p {d d' : D} (h : Dm.pers d = true) (hl : Le d d') : Vl pe d d' := Vl.le (Vl.pers h) hl
theorem Vl.ref {id off : Nat} {cs : List D} (hm : fnd pe id = some (some (.box cs))) : Vl pe (.ref id off) (.ref id off) := fun M w g σ he _ v hv => by
  simp only [Rep] at hv ⊢
  obtain ⟨g', σ1, cs1, hG, h1, h2⟩ := hv
  cases hG
  exact ⟨g, pe, cs, rfl, fnd_lk hm, h2⟩
theorem Vl.own {id L e n : Nat} {cs : List D} (hm : fnd pe id = some (some (.row e n L cs))) : Vl pe (.own id L) (.own id L) := fun M w g σ he _ v hv => by
  simp only [Rep] at hv ⊢
  obtain ⟨g', σ1, hG, h1, h4⟩ := hv
  cases hG
  exact ⟨g, pe, rfl, .inr ⟨e, n, L, cs, fnd_lk hm, Nat.le_refl _, (row_at (fnd_ens he hm) h1).2⟩, h4⟩
theorem Vl.agg {cs cs' : List D} (h : VlL pe cs cs') : Vl pe (.agg cs) (.agg cs') := fun M w g σ he hM v hv => by
  simp only [Rep] at hv ⊢
  obtain ⟨vs, q1, q2⟩ := hv
  exact ⟨vs, q1, VlL.rep he hM h q2⟩
theorem Vl.tup {cs cs' : List D} (h : VlL pe cs cs') : Vl pe (.tup cs) (.tup cs') := fun M w g σ he hM v hv => by
  simp only [Rep] at hv ⊢
  obtain ⟨vs, q1, q2⟩ := hv
  exact ⟨vs, q1, VlL.rep he hM h q2⟩
theorem Vl.clo {fn : Fn} {cs cs' es es' : List D} (h : VlL pe cs cs') (h2 : VlL pe es es') : Vl pe (.clo fn cs es) (.clo fn cs' es') := fun M w g σ he hM v hv => by
  simp only [Rep] at hv ⊢
  obtain ⟨vs, us, q1, q2, q3⟩ := hv
  exact ⟨vs, us, q1, VlL.rep he hM h q2, VlL.rep he hM h2 q3⟩
theorem VlL.pers : ∀ {ds : List D}, persL ds = true → VlL pe ds ds
  | [], _ => trivial
  | d :: ds, h => by
    simp only [persL, Bool.and_eq_true] at h
    exact ⟨Vl.pers h.1, VlL.pers h.2⟩
/-- The lent part holds only what is persistent or lent. -/
def EsL (pe : Sg) : Sg → Prop
  | [] => True
  | (_, e) :: r => (match e with
      | none => True
      | some .dead => True
      | some (.box cs) => VlL pe cs cs
      | some (.row _ _ _ cs) => VlL pe cs cs) ∧ EsL pe r
theorem EsL.at : ∀ {τ : Sg}, EsL pe τ → ∀ id, (∀ cs, lkE τ id = some (.box cs) → VlL pe cs cs) ∧ (∀ e n L cs, lkE τ id = some (.row e n L cs) → VlL pe cs cs)
  | [], _, id => ⟨fun cs h => by simp [lkE] at h, fun e n L cs h => by simp [lkE] at h⟩
  | (k, x) :: r, h, id => by
    rw [lkE_cons]
    by_cases e : k = id
    · rw [if_pos e]
      have h1 := h.1
      refine ⟨fun cs hc => ?_, fun e n L cs hc => ?_⟩
      · subst hc; exact h1
      · subst hc; exact h1
    · rw [if_neg e]; exact EsL.at h.2 id

section
variable {P : Program} {N : Nat} {we : Sg}
theorem EntOk.step {M M' S : Nat → Prop} {w w' : World} {g g' : Gh} {σ σ' : Sg} (hG : Grow (g, σ) (g', σ')) (m : Mut S w w') (hS : ∀ b, b < w.heap.size → S b → M b) (hM : ∀ b, b < w.heap.size → M' b → M b) {id : Nat} {e : Ent}
    (hb : ∀ cs, e = .box cs → g'.blk id = g.blk id ∧ ¬ S (g.blk id)) (hr : ∀ e1 n len cs, e = .row e1 n len cs → g'.row id = g.row id ∧ ∀ b, (g.row id).ownBlock = some b → ¬ S b) (h : EntOk M w g σ id e) : EntOk M' w' g' σ' id e := by
  cases e with
  | box cs =>
    obtain ⟨vs, T, h1, h2, h3⟩ := h
    obtain ⟨q1, q2⟩ := hb cs rfl
    exact ⟨vs, T, by rw [q1]; exact m.heap h1 q2, RepL.step (G := some _) (G' := some _) hG m hS hM cs vs h2, h3⟩
  | row e1 n len cs =>
    obtain ⟨vs, h1, h2⟩ := h
    obtain ⟨q1, q2⟩ := hr e1 n len cs rfl
    exact ⟨vs, by rw [q1]; exact h1.mut m q2, RepL.step (G := some _) (G' := some _) hG m hS hM cs vs h2⟩
  | dead => trivial

/-- A datum seen from the lent part alone, with some rows and boxes given away. -/
def Xl (M0 : Nat → Prop) (g : Gh) (σ lp gp : Sg) (b : Nat) : Prop := M0 b ∨ ∃ id, (fnd lp id).isSome = false ∧ (fnd gp id).isSome = false ∧ blkOf g σ id = some b
def Vg (lp gp : Sg) (d d' : D) : Prop := ∀ (w0 : World) (M0 : Nat → Prop) (B0 : Bd) (N : Nat) (g : Gh) (s : DS) (a : Act) (w : World), StG w0 M0 B0 N g s a w → Ens s.σ (lp ++ gp) → ∀ v, Rep (Mx M0 g s.σ) w (some (g, s.σ)) d v → Rep (Mx (Xl M0 g s.σ lp gp) g lp) w (some (g, lp)) d' v
def VgL (lp gp : Sg) : List D → List D → Prop
  | [], [] => True
  | d :: ds, e :: es => Vg lp gp d e ∧ VgL lp gp ds es
  | _, _ => False
theorem Ens.left {σ : Sg} : ∀ {l r : List (Nat × Option Ent)}, Ens σ (l ++ r) → Ens σ l
  | [], _, _ => trivial
  | p :: l, r, h => ⟨h.1, Ens.left h.2⟩
theorem Ens.right {σ : Sg} : ∀ {l r : List (Nat × Option Ent)}, Ens σ (l ++ r) → Ens σ r
  | [], _, h => h
  | p :: l, r, h => Ens.right h.2
theorem lent_blk {g : Gh} {σ lp : Sg} (he : Ens σ lp) {id b : Nat} (h : blkOf g lp id = some b) : (fnd lp id).isSome = true ∧ blkOf g σ id = some b := by
  cases hb : fnd lp id with
  | none => unfold blkOf at h; rw [fnd_lk0 hb] at h; cases h
  | some x =>
    refine ⟨rfl, ?_⟩
    unfold blkOf at h ⊢
    rw [fnd_ens he hb]
    rw [fnd_lk hb] at h
    exact h
theorem Xl.sub {M0 : Nat → Prop} {g : Gh} {σ lp gp : Sg} (he : Ens σ lp) {b : Nat} (h : Mx (Xl M0 g σ lp gp) g lp b) : Mx M0 g σ b := by
  rcases h with (h | ⟨id, _, _, h⟩) | ⟨id, h⟩
  · exact .inl h
  · exact .inr ⟨id, h⟩
  · exact .inr ⟨id, (lent_blk he h).2⟩
theorem Vg.of {lp gp : Sg} {d d' : D} (h : Vl lp d d') : Vg lp gp d d' := fun w0 M0 B0 N g s a w hs he v hv =>
  h _ w g s.σ he.left (fun b hb => hs.mlt b (Xl.sub he.left hb)) v (hv.mono fun b _ hb => Xl.sub he.left hb)
theorem Vg.give {lp gp : Sg} {d d' : D} (hd : ∀ id, id ∈ keys gp → (fnd lp id).isSome = false) (h : Vw gp d d') : Vg lp gp d d' := fun w0 M0 B0 N g s a w hs he v hv => by
  refine (Rep.mono (h w0 M0 B0 N g s a w hs he.right v hv) fun b _ hb => ?_).up
  rcases hb with (hb | ⟨id, h1, h2, hb⟩) | ⟨id, hb⟩
  · exact .inl hb
  · refine .inr ⟨id, fun hk => ?_, hb⟩
    obtain ⟨x, hx⟩ := fnd_some hk
    rw [hx] at h2; cases h2
  · obtain ⟨q1, q2⟩ := lent_blk he.left hb
    refine .inr ⟨id, fun hk => ?_, q2⟩
    rw [hd id hk] at q1; cases q1
theorem VgL.of {lp gp : Sg} : ∀ {ds es : List D}, VlL lp ds es → VgL lp gp ds es
  | [], [], _ => trivial
  | d :: ds, e :: es, h => ⟨Vg.of h.1, VgL.of h.2⟩
  | [], _ :: _, h => h.elim
  | _ :: _, [], h => h.elim
theorem VgL.rep {lp gp : Sg} {w0 : World} {M0 : Nat → Prop} {B0 : Bd} {N : Nat} {g : Gh} {s : DS} {a : Act} {w : World} (hs : StG w0 M0 B0 N g s a w) (he : Ens s.σ (lp ++ gp)) : ∀ {ds es : List D} {vs : List Value}, VgL lp gp ds es → RepL (Mx M0 g s.σ) w (some (g, s.σ)) ds vs → RepL (Mx (Xl M0 g s.σ lp gp) g lp) w (some (g, lp)) es vs
  | [], [], vs, _, h => by simpa only [RepL] using h
  | d :: ds, e :: es, vs, hl, h => by
    simp only [RepL] at h ⊢
    obtain ⟨u, us, h1, h2, h3⟩ := h
    exact ⟨u, us, h1, hl.1 _ _ _ _ _ _ _ _ hs he _ h2, VgL.rep hs he hl.2 h3⟩
  | [], _ :: _, _, h, _ => h.elim
  | _ :: _, [], _, h, _ => h.elim
/-- The lent part holds what is persistent, lent or given. -/
def EsG (lp gp : Sg) : Sg → Prop
  | [] => True
  | (_, e) :: r => (match e with
      | none => True
      | some .dead => True
      | some (.box cs) => VgL lp gp cs cs
      | some (.row _ _ _ cs) => VgL lp gp cs cs) ∧ EsG lp gp r
theorem EsG.at {lp gp : Sg} : ∀ {τ : Sg}, EsG lp gp τ → ∀ id, (∀ cs, lkE τ id = some (.box cs) → VgL lp gp cs cs) ∧ (∀ e n L cs, lkE τ id = some (.row e n L cs) → VgL lp gp cs cs)
  | [], _, id => ⟨fun cs h => by simp [lkE] at h, fun e n L cs h => by simp [lkE] at h⟩
  | (k, x) :: r, h, id => by
    rw [lkE_cons]
    by_cases e : k = id
    · rw [if_pos e]
      have h1 := h.1
      refine ⟨fun cs hc => ?_, fun e n L cs hc => ?_⟩
      · subst hc; exact h1
      · subst hc; exact h1
    · rw [if_neg e]; exact EsG.at h.2 id
theorem EsG.of {lp gp : Sg} : ∀ {τ : Sg}, EsL lp τ → EsG lp gp τ
  | [], _ => trivial
  | (k, x) :: r, h => by
    refine ⟨?_, EsG.of h.2⟩
    have h1 := h.1
    match x with
    | none => trivial
    | some .dead => trivial
    | some (.box cs) => exact VgL.of h1
    | some (.row _ _ _ cs) => exact VgL.of h1
def deads (gp : Sg) : Sg := gp.map fun p => (p.1, some Ent.dead)
theorem fnd_deads (id : Nat) : ∀ gp : Sg, fnd (deads gp) id = if (fnd gp id).isSome then some (some .dead) else none
  | [] => rfl
  | (k, x) :: r => by
    have ih := fnd_deads id r
    by_cases hb : k = id
    · subst hb; simp [deads, fnd]
    · have hb' : (k == id) = false := by simpa using hb
      simp only [deads, List.map_cons, fnd, hb', cond_false] at ih ⊢
      exact ih
theorem fnd_append (id : Nat) : ∀ u v : Sg, fnd (u ++ v) id = (fnd u id).or (fnd v id)
  | [], v => by simp [fnd]
  | (k, x) :: r, v => by
    have ih := fnd_append id r v
    by_cases hb : k = id
    · subst hb; simp [fnd]
    · have hb' : (k == id) = false := by simpa using hb
      simp only [List.cons_append, fnd, hb', cond_false]
      exact ih

def isRowE : Option Ent → Bool
  | some (.row ..) => true
  | _ => false
theorem rows_at {gp : Sg} (h : (gp.all fun p => isRowE p.2) = true) {id : Nat} (hi : (fnd gp id).isSome = true) : ∃ e n len cs, lkE gp id = some (.row e n len cs) := by
  induction gp with
  | nil => simp [fnd] at hi
  | cons p r ih =>
    obtain ⟨k, x⟩ := p
    simp only [List.all_cons, Bool.and_eq_true] at h
    simp only [fnd] at hi
    simp only [lkE]
    by_cases hb : k = id
    · subst hb
      simp only [beq_self_eq_true, cond_true]
      match x, h.1 with
      | some (.row e n len cs), _ => exact ⟨e, n, len, cs, rfl⟩
    · have hb' : (k == id) = false := by simpa using hb
      simp only [hb', cond_false] at hi ⊢; exact ih h.2 hi

theorem new_at {id : Nat} : ∀ {u : Sg}, (u.all fun p => p.2.isSome || newId N p.1) = true → (fnd u id).isSome = true → lkE u id = none → newId N id = true
  | [], _, h, _ => by simp [fnd] at h
  | (k, x) :: r, ha, h, hn => by
    simp only [List.all_cons, Bool.and_eq_true] at ha
    simp only [fnd] at h
    simp only [lkE] at hn
    by_cases hb : k = id
    · subst hb
      simp only [beq_self_eq_true, cond_true] at hn
      subst hn
      simpa using ha.1
    · have hb' : (k == id) = false := by simpa using hb
      simp only [hb', cond_false] at h hn
      exact new_at ha.2 h hn

section
variable [Rnd]
/-- What a call that is lent memory keeps to; C is the kind of the call. -/
def LendC (C : Gh → Array Value → World → (Ending → World → Prop) → Prop) (args : List D) (pe we : Sg) (d : D) : Prop :=
  ∀ (M0 : Nat → Prop) (g : Gh) (w : World) (vals : List Value), (∀ b, M0 b → b < w.heap.size) → Hold M0 w g pe → RepL (Mx M0 g pe) w (some (g, pe)) args vals → GlOk w (fun b => ∃ id, blkOf g pe id = some b) → C g vals.toArray w (LendPost M0 w g pe we d)
theorem DLend.lendC {k : FuncId} {args : List D} {pe we : Sg} {d : D} (h : DLend P k args pe we d) : LendC (fun _ vals w R => Calls P k vals w R) args pe we d := fun M0 g w vals hM hh hv hg => h.go M0 g w vals hM hh hv hg
/-- What a call leaves that was lent memory (lp, which comes back as lw) and given rows (gp). -/
theorem lend_core {C : Gh → Array Value → World → (Ending → World → Prop) → Prop} {d : D} {args : List D} {lp lw gp : Sg} (hf : LendC C args lp lw d) (hmono : ∀ (g : Gh) (vals : Array Value) (w : World) (R R' : Ending → World → Prop), (∀ e w', R e w' → R' e w') → C g vals w R → C g vals w R') (hkeys : keys lp = keys lw) (hnew : (lp.all fun p => p.2.isSome || newId N p.1) = true) (hrows : (gp.all fun p => isRowE p.2) = true) (hdis : ∀ id, (fnd lp id).isSome = true → (fnd gp id).isSome = false) (hE : EsG lp gp lp)
    {w0 : World} {M0 : Nat → Prop} {B0 : Bd} {g : Gh} {s : DS} {a : Act} {w : World} (hs : StG w0 M0 B0 N g s a w) (h2 : Ens s.σ (lp ++ gp)) {dst : Option Tmp} (hd : dstOk N dst = true) {vals : List Value} (hargs : RepL (Mx (Xl M0 g s.σ lp gp) g lp) w (some (g, lp)) args vals) :
    C g vals.toArray w (fun e w' => ∃ v g2, e = .returned v ∧ StG w0 M0 B0 N g2 ⟨updF s.f dst d, lw ++ deads gp ++ s.σ⟩ (a.put dst v) w' ∧ Grow (g, s.σ) (g2, lw ++ deads gp ++ s.σ) ∧ Mut (fun b => ∃ id, blkOf g s.σ id = some b) w w' ∧
      (∀ id b, blkOf g2 (lw ++ deads gp ++ s.σ) id = some b → b < w.heap.size → ∃ id', blkOf g s.σ id' = some b)) := by
  have hl := h2.left
  have hr := h2.right
  have hsm : ∀ id, (fnd lw id).isSome = (fnd lp id).isSome := fun id => fnd_keys hkeys.symm
  have e3 : ∀ id, (fnd lp id).isSome = true → lkE s.σ id = lkE lp id := fun id h => by
    obtain ⟨x, hx⟩ := Option.isSome_iff_exists.1 h
    rw [fnd_ens hl hx, fnd_lk hx]
  have eg : ∀ id, (fnd gp id).isSome = true → ∃ e n len cs, lkE s.σ id = some (.row e n len cs) := fun id h => by
    obtain ⟨x, hx⟩ := Option.isSome_iff_exists.1 h
    obtain ⟨e, n, len, cs, q⟩ := rows_at hrows h
    exact ⟨e, n, len, cs, by rw [fnd_ens hr hx, ← fnd_lk hx]; exact q⟩
  have e4 : ∀ id, (fnd lp id).isSome = false → lkE lp id = none := fun id h => fnd_lk0 (by simpa using h)
  have e5 : ∀ id, (fnd lp id).isSome = false → lkE lw id = none := fun id h => fnd_lk0 (by have := (hsm id).trans h; simpa using this)
  have e1 : ∀ id, (fnd lp id).isSome = true → lkE (lw ++ deads gp ++ s.σ) id = lkE lw id := fun id h => by
    obtain ⟨x, hx⟩ := Option.isSome_iff_exists.1 ((hsm id).trans h)
    rw [lkE_app, fnd_append, hx, fnd_lk hx]; rfl
  have eD : ∀ id, (fnd lp id).isSome = false → (fnd gp id).isSome = true → lkE (lw ++ deads gp ++ s.σ) id = some .dead := fun id h h' => by
    rw [lkE_app, fnd_append, show fnd lw id = none by have := (hsm id).trans h; simpa using this, fnd_deads, if_pos h']; rfl
  have e2 : ∀ id, (fnd lp id).isSome = false → (fnd gp id).isSome = false → lkE (lw ++ deads gp ++ s.σ) id = lkE s.σ id := fun id h h' => by
    rw [lkE_app, fnd_append, show fnd lw id = none by have := (hsm id).trans h; simpa using this, fnd_deads, if_neg (by rw [h']; simp)]; rfl
  have b3' : ∀ id b, blkOf g lp id = some b → (fnd lp id).isSome = true ∧ blkOf g s.σ id = some b := fun id b h => lent_blk hl h
  have b3 : ∀ id, (fnd lp id).isSome = true → blkOf g s.σ id = blkOf g lp id := fun id h => by unfold blkOf; rw [e3 id h]
  have hmlt : ∀ b, Xl M0 g s.σ lp gp b → b < w.heap.size := fun b hb => by
    rcases hb with hb | ⟨id, _, _, hb⟩
    · exact hs.mlt b (.inl hb)
    · exact (hs.new id b hb).1
  have hhold : Hold (Xl M0 g s.σ lp gp) w g lp := by
    refine ⟨fun id e he => ?_, fun id id' b q1 q2 => hs.sep id id' b (b3' id b q1).2 (b3' id' b q2).2, fun id b q => ⟨(hs.new id b (b3' id b q).2).1, ?_⟩⟩
    · have hi : (fnd lp id).isSome = true := by
        cases hb : (fnd lp id).isSome
        · rw [e4 id hb] at he; cases he
        · rfl
      have h0 := hs.ent id e (by rw [e3 id hi]; exact he)
      cases e with
      | box cs =>
        obtain ⟨vs, T, q1, q2, q3⟩ := h0
        exact ⟨vs, T, q1, VgL.rep hs h2 ((hE.at id).1 cs he) q2, q3⟩
      | row e1 n len cs =>
        obtain ⟨vs, q1, q2⟩ := h0
        exact ⟨vs, q1, VgL.rep hs h2 ((hE.at id).2 e1 n len cs he) q2⟩
      | dead => trivial
    · rintro (hm | ⟨id', hi', _, hb'⟩)
      · exact (hs.new id b (b3' id b q).2).2.2 hm
      · have := hs.sep id id' b (b3' id b q).2 hb'
        subst this
        rw [(b3' id b q).1] at hi'; cases hi'
  refine hmono _ _ _ _ _ (fun e w' ⟨v, g', q1, m, hgr, hh, hnw, hrep⟩ => ⟨v, ?_⟩) (hf _ g w vals hmlt hhold hargs ⟨hs.glw, fun b hb ⟨id, q⟩ => hs.glo.n b hb ((hs.new id b (b3' id b q).2).2.1 (hs.glo.w.lt hb))⟩)
  have hgp : ∃ g2 : Gh, (∀ id, (fnd lp id).isSome = true → g2.blk id = g'.blk id ∧ g2.row id = g'.row id) ∧ (∀ id, (fnd lp id).isSome = false → g2.blk id = g.blk id ∧ g2.row id = g.row id) :=
    ⟨⟨fun id => if (fnd lp id).isSome then g'.blk id else g.blk id, fun id => if (fnd lp id).isSome then g'.row id else g.row id⟩, fun id h => ⟨by simp [h], by simp [h]⟩, fun id h => ⟨by simp [h], by simp [h]⟩⟩
  obtain ⟨g2, k1, k2⟩ := hgp
  generalize hσ1 : lw ++ deads gp ++ s.σ = σ1 at *
  have b1 : ∀ id, (fnd lp id).isSome = true → blkOf g2 σ1 id = blkOf g' lw id := fun id h => by unfold blkOf; rw [e1 id h, (k1 id h).1, (k1 id h).2]
  have b2 : ∀ id b, (fnd lp id).isSome = false → blkOf g2 σ1 id = some b → (fnd gp id).isSome = false ∧ blkOf g s.σ id = some b := fun id b h hb => by
    cases hg : (fnd gp id).isSome
    · unfold blkOf at hb ⊢; rw [e2 id h hg, (k2 id h).1, (k2 id h).2] at hb; exact ⟨rfl, hb⟩
    · unfold blkOf at hb; rw [eD id h hg] at hb; cases hb
  have gr1 : Grow (g, s.σ) (g2, σ1) := by
    refine ⟨fun id cs h => ?_, fun id e n len cs h => ?_, fun id h => ?_⟩
    · cases hb : (fnd lp id).isSome
      · cases hg : (fnd gp id).isSome
        · exact ⟨⟨cs, by simp only; rw [e2 id hb hg]; exact h⟩, (k2 id hb).1⟩
        · obtain ⟨_, _, _, _, q⟩ := eg id hg
          simp only at h; rw [q] at h; cases h
      · obtain ⟨⟨cs', q1⟩, q2⟩ := hgr.box id cs (by simp only at h ⊢; rw [← e3 id hb]; exact h)
        exact ⟨⟨cs', by simp only at q1 ⊢; rw [e1 id hb]; exact q1⟩, (k1 id hb).1.trans q2⟩
    · cases hb : (fnd lp id).isSome
      · cases hg : (fnd gp id).isSome
        · exact .inr ⟨e, n, len, cs, by simp only; rw [e2 id hb hg]; exact h, Nat.le_refl _, fun _ => (k2 id hb).2⟩
        · exact .inl (eD id hb hg)
      · rcases hgr.row id e n len cs (by simp only at h ⊢; rw [← e3 id hb]; exact h) with q | ⟨e', n', len', cs', q1, q2, q3⟩
        · exact .inl (by simp only at q ⊢; rw [e1 id hb]; exact q)
        · exact .inr ⟨e', n', len', cs', by simp only at q1 ⊢; rw [e1 id hb]; exact q1, q2, fun q => (k1 id hb).2.trans (q3 q)⟩
    · cases hb : (fnd lp id).isSome
      · cases hg : (fnd gp id).isSome
        · simp only; rw [e2 id hb hg]; exact h
        · exact eD id hb hg
      · have q := hgr.dead id (by simp only at h ⊢; rw [← e3 id hb]; exact h)
        simp only at q ⊢; rw [e1 id hb]; exact q
  have gr2 : Grow (g', lw) (g2, σ1) := by
    refine ⟨fun id cs h => ?_, fun id e n len cs h => ?_, fun id h => ?_⟩
    · cases hb : (fnd lp id).isSome
      · simp only at h; rw [e5 id hb] at h; cases h
      · exact ⟨⟨cs, by simp only at h ⊢; rw [e1 id hb]; exact h⟩, (k1 id hb).1⟩
    · cases hb : (fnd lp id).isSome
      · simp only at h; rw [e5 id hb] at h; cases h
      · exact .inr ⟨e, n, len, cs, by simp only at h ⊢; rw [e1 id hb]; exact h, Nat.le_refl _, fun _ => (k1 id hb).2⟩
    · cases hb : (fnd lp id).isSome
      · simp only at h; rw [e5 id hb] at h; cases h
      · simp only at h ⊢; rw [e1 id hb]; exact h
  have hM1 : ∀ b, b < w.heap.size → Mx M0 g2 σ1 b → Mx M0 g s.σ b := fun b hlt h => by
    rcases h with h | ⟨id, h⟩
    · exact .inl h
    · cases hb : (fnd lp id).isSome
      · exact .inr ⟨id, (b2 id b hb h).2⟩
      · rw [b1 id hb] at h
        obtain ⟨id', h'⟩ := hnw id b h hlt
        exact .inr ⟨id', (b3' id' b h').2⟩
  have hS : ∀ b, b < w.heap.size → (∃ id, blkOf g lp id = some b) → Mx M0 g s.σ b := fun b _ ⟨id, h⟩ => .inr ⟨id, (b3' id b h).2⟩
  have hM2 : ∀ b, b < w'.heap.size → Mx M0 g2 σ1 b → Mx (Xl M0 g s.σ lp gp) g' lw b := fun b hlt h => by
    rcases h with h | ⟨id, h⟩
    · exact .inl (.inl h)
    · cases hb : (fnd lp id).isSome
      · obtain ⟨q1, q2⟩ := b2 id b hb h
        exact .inl (.inr ⟨id, hb, q1, q2⟩)
      · rw [b1 id hb] at h; exact .inr ⟨id, h⟩
  have st : ∀ d v, Rep (Mx M0 g s.σ) w (some (g, s.σ)) d v → Rep (Mx M0 g2 σ1) w' (some (g2, σ1)) d v := fun d v h => h.step (G := some _) (G' := some _) gr1 m hS hM1
  have hown : ∀ id b, blkOf g2 σ1 id = some b → b < w.heap.size → ∃ id', blkOf g s.σ id' = some b := (fun id b q hlt => (by
    cases hb : (fnd lp id).isSome
    · exact ⟨id, (b2 id b hb q).2⟩
    · rw [b1 id hb] at q
      obtain ⟨id', h'⟩ := hnw id b q hlt
      exact ⟨id', (b3' id' b h').2⟩))
  refine ⟨g2, q1, ?_, gr1, m.mono (fun b _ ⟨id, h⟩ => ⟨id, (b3' id b h).2⟩), hown⟩
  refine ⟨hs.chg.trans' m (fun b hlt ⟨id, hb⟩ => (hs.new id b (b3' id b hb).2).2.1 hlt), hs.m0, hs.df.step m (put_defers _ _ _) (fun b _ ⟨id, h⟩ => ⟨id, (b3' id b h).2⟩) hown, by rw [put_size]; exact hs.sz, fun t => ?_, fun id e he => ?_, fun id id' b q1 q2 => ?_, fun id b q => ?_, hs.anc.grow gr1 (fun id h1 h2 => ?_), hs.glo⟩
  · rw [put_getD _ _ _ _ (fun k hk => by rw [hs.sz]; rw [hk] at hd; simpa [dstOk] using hd)]
    have hrep' := hrep.step (M' := Mx M0 g2 σ1) (S := fun _ => False) (G := some _) (G' := some (g2, σ1)) gr2 (Mut.refl _ w') (fun _ _ e => e.elim) hM2
    cases hdst : dst with
    | none => simpa [updF] using st _ _ (hs.tm t)
    | some k =>
      simp only [updF, lkF_cons, Option.some.injEq]
      by_cases e : k = t
      · rw [if_pos e, if_pos e]; exact hrep'
      · rw [if_neg e, if_neg e]; exact st _ _ (hs.tm t)
  · cases hb : (fnd lp id).isSome
    · cases hg : (fnd gp id).isSome
      · have he' : lkE s.σ id = some e := by rw [← e2 id hb hg]; exact he
        refine (hs.ent id e he').step gr1 m hS hM1 (fun cs hc => ⟨(k2 id hb).1, ?_⟩) (fun e1 n len cs hc => ⟨(k2 id hb).2, ?_⟩)
        · rintro ⟨id', h'⟩
          have h1 : blkOf g s.σ id = some (g.blk id) := by unfold blkOf; rw [he', hc]
          have := hs.sep id id' _ h1 (b3' id' _ h').2
          subst this
          rw [(b3' id _ h').1] at hb; cases hb
        · rintro b hob ⟨id', h'⟩
          have h1 : blkOf g s.σ id = some b := by unfold blkOf; rw [he', hc]; exact hob
          have := hs.sep id id' _ h1 (b3' id' _ h').2
          subst this
          rw [(b3' id _ h').1] at hb; cases hb
      · have := eD id hb hg
        simp only at he
        rw [this] at he; cases he; trivial
    · have he' : lkE lw id = some e := by rw [← e1 id hb]; exact he
      exact (hh.ent id e he').step (S := fun _ => False) gr2 (Mut.refl _ w') (fun _ _ e => e.elim) hM2 (fun cs hc => ⟨(k1 id hb).1, fun h => h⟩) (fun e1 n len cs hc => ⟨(k1 id hb).2, fun _ _ h => h⟩)
  · cases hb : (fnd lp id).isSome <;> cases hb' : (fnd lp id').isSome
    · exact hs.sep id id' b (b2 id b hb q1).2 (b2 id' b hb' q2).2
    · rw [b1 id' hb'] at q2
      obtain ⟨q3, q4⟩ := b2 id b hb q1
      exact absurd (.inr ⟨id, hb, q3, q4⟩) (hh.new id' b q2).2
    · rw [b1 id hb] at q1
      obtain ⟨q3, q4⟩ := b2 id' b hb' q2
      exact absurd (.inr ⟨id', hb', q3, q4⟩) (hh.new id b q1).2
    · rw [b1 id hb] at q1; rw [b1 id' hb'] at q2; exact hh.sep id id' b q1 q2
  · cases hb : (fnd lp id).isSome
    · have := hs.new id b (b2 id b hb q).2
      exact ⟨Nat.lt_of_lt_of_le this.1 m.size, this.2⟩
    · rw [b1 id hb] at q
      have := hh.new id b q
      refine ⟨this.1, fun hlt => ?_, fun hm => this.2 (.inl hm)⟩
      obtain ⟨id', h'⟩ := hnw id b q (Nat.lt_of_lt_of_le hlt hs.chg.size)
      exact (hs.new id' b (b3' id' b h').2).2.1 hlt
  · cases hb : (fnd lp id).isSome
    · cases hg : (fnd gp id).isSome
      · simp only at h2; rw [e2 id hb hg] at h2; exact absurd h1 h2
      · obtain ⟨_, _, _, _, q⟩ := eg id hg
        rw [q] at h1; cases h1
    · rw [e3 id hb] at h1
      exact new_at hnew hb h1

/-- A call that is lent memory (lp, which comes back as lw) and given rows (gp). -/
theorem Tri.lendG {o : Oper} {C : Gh → Array Value → World → (Ending → World → Prop) → Prop} {pf : List (Operand × D)} {d : D} {args : List D} {lp lw gp : Sg} (hf : LendC C args lp lw d) (hmono : ∀ (g : Gh) (vals : Array Value) (w : World) (R R' : Ending → World → Prop), (∀ e w', R e w' → R' e w') → C g vals w R → C g vals w R') (hkeys : keys lp = keys lw) (hnew : (lp.all fun p => p.2.isSome || newId N p.1) = true) (hrows : (gp.all fun p => isRowE p.2) = true) (hdis : ∀ id, (fnd lp id).isSome = true → (fnd gp id).isSome = false) (hE : EsG lp gp lp)
    (hex : ∀ (w0 : World) (M0 : Nat → Prop) (B0 : Bd) (g : Gh) (s : DS) (a : Act) (w : World), StG w0 M0 B0 N g s a w → Ens s.σ (lp ++ gp) → Vals (Mx M0 g s.σ) w (some (g, s.σ)) a.eval pf → ∃ vals : List Value, RepL (Mx (Xl M0 g s.σ lp gp) g lp) w (some (g, lp)) args vals ∧
      ∀ (next : Act → World → Prop) (Q : Exit → Act → World → Prop), C g vals.toArray w (fun e w' => ∃ v, e = .returned v ∧ next (a.put o.dst v) w') → o.wpIn (FW Rnd.r) 0 P a w next Q) : Tri P N o pf (lp ++ gp) d (lw ++ deads gp) := by
  refine ⟨?_⟩
  intro w0 M0 B0 s a w next Q h1 h2 hd ⟨g, hs⟩ hk
  obtain ⟨vals, hargs, hop⟩ := hex w0 M0 B0 g s a w hs h2 (hs.vals h1)
  exact hop _ _ (hmono _ _ _ _ _ (fun e w' ⟨v, g2, q1, q2, _⟩ => ⟨v, q1, hk _ _ ⟨g2, q2⟩⟩) (lend_core hf hmono hkeys hnew hrows hdis hE hs h2 hd hargs))
/-- A call of a function. -/
theorem Tri.lend {o : Oper} {k : FuncId} {pf : List (Operand × D)} {d : D} {args : List D} {lp lw gp : Sg} (hf : DLend P k args lp lw d) (hkeys : keys lp = keys lw) (hnew : (lp.all fun p => p.2.isSome || newId N p.1) = true) (hrows : (gp.all fun p => isRowE p.2) = true) (hdis : ∀ id, (fnd lp id).isSome = true → (fnd gp id).isSome = false) (hE : EsG lp gp lp)
    (hex : ∀ (w0 : World) (M0 : Nat → Prop) (B0 : Bd) (g : Gh) (s : DS) (a : Act) (w : World), StG w0 M0 B0 N g s a w → Ens s.σ (lp ++ gp) → Vals (Mx M0 g s.σ) w (some (g, s.σ)) a.eval pf → ∃ vals : List Value, (execOp a.eval o).run P w = .ok (.enter k vals.toArray) w ∧ RepL (Mx (Xl M0 g s.σ lp gp) g lp) w (some (g, lp)) args vals) : Tri P N o pf (lp ++ gp) d (lw ++ deads gp) :=
  Tri.lendG hf.lendC (fun g vals w R R' h hc => hc.mono h) hkeys hnew hrows hdis hE fun w0 M0 B0 g s a w hs h2 hv => by
    obtain ⟨vals, h3, h4⟩ := hex w0 M0 B0 g s a w hs h2 hv
    refine ⟨vals, h4, fun next Q hc => opIn_enter h3 (hc.mono fun e w' ⟨v, q1, q2⟩ => ?_)⟩
    subst q1
    exact q2
theorem old_at {id : Nat} {x : Ent} : ∀ {u : Sg}, (u.all fun p => p.2.isNone || !newId N p.1) = true → lkE u id = some x → newId N id = false
  | [], _, h => by simp [lkE] at h
  | (k, y) :: r, ha, h => by
    simp only [List.all_cons, Bool.and_eq_true] at ha
    rw [lkE_cons] at h
    by_cases hb : k = id
    · rw [if_pos hb] at h
      subst hb; subst h
      simpa using ha.1
    · rw [if_neg hb] at h; exact old_at ha.2 h
theorem run_callC {dst : Option Tmp} {ty : TypeId} {pos : String} {af : Array Edge} {gd : Option (Nat × Bool)} {k : FuncId} {x : Operand} {ar : List Operand} {ts : Array TypeId} {ρ : Operand → Value} {fs us : List Value} (he : Enters P k) (hx : ρ x = .func (.func k) fs.toArray us.toArray) (w : World) :
    (execOp ρ ⟨dst, .call { callee := .value x, args := ar.toArray, argTypes := ts }, ty, pos, af, gd⟩).run P w = .ok (.enter k (fs ++ ar.map ρ ++ us).toArray) w := by
  simp only [execOp, resolve, hx, Deferred.ofValue, Sem.run_bind, Sem.run_pure, Result.andThen_ok, invoke, List.map_toArray]
  have := he ((fs ++ ar.map ρ ++ us).toArray) w
  simpa using this
/-- A call of a known function that is lent memory and given rows. -/
theorem T.lend {dst : Option Tmp} {ty : TypeId} {pos : String} {af : Array Edge} {gd : Option (Nat × Bool)} {k : FuncId} {ar : List Operand} {ts : Array TypeId} {ds ds' : List D} {d : D} {lp lw : Sg} (gp : Sg) (he : Enters P k) (hf : DLend P k ds lp lw d) (hl : ar.length = ds'.length) (hp : VgL lp gp ds' ds) (hkeys : keys lp = keys lw) (hnew : (lp.all fun p => p.2.isSome || newId N p.1) = true) (hrows : (gp.all fun p => isRowE p.2) = true) (hdis : ∀ id, (fnd lp id).isSome = true → (fnd gp id).isSome = false) (hE : EsG lp gp lp) :
    Tri P N ⟨dst, .call { callee := .value (.func k), args := ar.toArray, argTypes := ts }, ty, pos, af, gd⟩ (ar.zip ds') (lp ++ gp) d (lw ++ deads gp) := Tri.lend hf hkeys hnew hrows hdis hE fun w0 M0 B0 g s a w hs h2 hv => by
  refine ⟨ar.map a.eval, run_callS he a.eval rfl w, ?_⟩
  have h1 := vals_repL hv
  rw [show (ar.zip ds').map (·.2) = ds' from by rw [List.map_snd_zip (by omega)], show ((ar.zip ds').map fun p => a.eval p.1) = ar.map a.eval from by rw [show (fun p : Operand × D => a.eval p.1) = a.eval ∘ Prod.fst from rfl, ← List.map_map, List.map_fst_zip (by omega)]] at h1
  exact VgL.rep hs h2 hp h1
/-- The same for a function value. -/
theorem T.lendC {dst : Option Tmp} {ty : TypeId} {pos : String} {af : Array Edge} {gd : Option (Nat × Bool)} {k : FuncId} {x : Operand} {ar : List Operand} {ts : Array TypeId} {first cap ds ds' : List D} {d : D} {lp lw : Sg} (gp : Sg) (he : Enters P k) (hf : DLend P k ds lp lw d) (hl : ar.length = ds'.length) (hp : VgL lp gp (first ++ ds' ++ cap) ds) (hkeys : keys lp = keys lw) (hnew : (lp.all fun p => p.2.isSome || newId N p.1) = true) (hrows : (gp.all fun p => isRowE p.2) = true) (hdis : ∀ id, (fnd lp id).isSome = true → (fnd gp id).isSome = false) (hE : EsG lp gp lp) :
    Tri P N ⟨dst, .call { callee := .value x, args := ar.toArray, argTypes := ts }, ty, pos, af, gd⟩ ((x, .clo (.func k) first cap) :: ar.zip ds') (lp ++ gp) d (lw ++ deads gp) := Tri.lend hf hkeys hnew hrows hdis hE fun w0 M0 B0 g s a w hs h2 hv => by
  have h0 := hv.1
  simp only [Rep] at h0
  obtain ⟨fs, us, hx, hf1, hc1⟩ := h0
  refine ⟨fs ++ ar.map a.eval ++ us, run_callC he hx w, ?_⟩
  have h1 := vals_repL hv.2
  rw [show (ar.zip ds').map (·.2) = ds' from by rw [List.map_snd_zip (by omega)], show ((ar.zip ds').map fun p => a.eval p.1) = ar.map a.eval from by rw [show (fun p : Operand × D => a.eval p.1) = a.eval ∘ Prod.fst from rfl, ← List.map_map, List.map_fst_zip (by omega)]] at h1
  exact VgL.rep hs h2 hp (RepL.append (RepL.append hf1 h1) hc1)

/-! the call's own side -/
end
def GrowK (we : Sg) : Sg → Prop
  | [] => True
  | (id, e) :: r => (match e with
      | none => True
      | some .dead => lkE we id = some .dead
      | some (.box _) => ∃ cs', lkE we id = some (.box cs')
      | some (.row _ _ len _) => lkE we id = some .dead ∨ ∃ e' n' len' cs', lkE we id = some (.row e' n' len' cs') ∧ len ≤ len') ∧ GrowK we r
theorem GrowK.deadAt {we : Sg} : ∀ {τ : Sg}, GrowK we τ → ∀ id, lkE τ id = some .dead → lkE we id = some .dead
  | [], _, id, h => by simp [lkE] at h
  | (k, x) :: r, h, id, hx => by
    rw [lkE_cons] at hx
    by_cases e : k = id
    · rw [if_pos e] at hx
      have h1 := h.1
      subst e; subst hx; exact h1
    · rw [if_neg e] at hx; exact GrowK.deadAt h.2 id hx
theorem GrowK.at : ∀ {τ : Sg}, GrowK we τ → ∀ id, (∀ cs, lkE τ id = some (.box cs) → ∃ cs', lkE we id = some (.box cs')) ∧ (∀ e n len cs, lkE τ id = some (.row e n len cs) → lkE we id = some .dead ∨ ∃ e' n' len' cs', lkE we id = some (.row e' n' len' cs') ∧ len ≤ len')
  | [], _, id => ⟨fun cs h => by simp [lkE] at h, fun e n L cs h => by simp [lkE] at h⟩
  | (k, x) :: r, h, id => by
    rw [lkE_cons]
    by_cases e : k = id
    · rw [if_pos e]
      have h1 := h.1
      subst e
      refine ⟨fun cs hc => ?_, fun e n L cs hc => ?_⟩
      · subst hc; exact h1
      · subst hc; exact h1
    · rw [if_neg e]; exact GrowK.at h.2 id
/-- What a call's last state gives: the lent part, and a result. -/
def ResL (P : Program) (fn : Func) (N : Nat) (s : DS) (we : Sg) (d : D) : Prop :=
  ∃ f', EsOk s.σ we we ∧ FsOk s.σ we s.f f' ∧ ∀ (w0 : World) (M0 : Nat → Prop) (B0 : Bd) (g : Gh) (a : Act) (w : World), StG w0 M0 B0 N g ⟨f', we⟩ a w → ∃ v, (results fn a.tmps).run P w = .ok v w ∧ Rep (Mx M0 g we) w (some (g, we)) d v
def lendBd (g : Gh) (pe : Sg) : Bd := ⟨fun b => ∃ id, blkOf g pe id = some b, fun id b => b = g.blk id, fun id len v => ∃ e n len0 cs, lkE pe id = some (.row e n len0 cs) ∧ len0 ≤ len ∧ (len = len0 → v = g.row id), fun id len v len' v' ⟨e, n, len0, cs, q1, q2, q3⟩ hlt => ⟨e, n, len0, cs, q1, by omega, fun q => by omega⟩⟩
theorem lend_end {w0 : World} {M0 : Nat → Prop} {B0 : Bd} {N : Nat} {g' : Gh} {s' : DS} {f' : Fr} {a' : Act} {w' : World} (r1 : EsOk s'.σ we we) (r2 : FsOk s'.σ we s'.f f') (q3 : StG w0 M0 B0 N g' s' a' w') : StG w0 M0 B0 N g' ⟨f', we⟩ a' w' := by
  have hM' : ∀ id b, blkOf g' we id = some b → blkOf g' s'.σ id = some b := fun id b hb => by
    unfold blkOf at hb
    obtain ⟨u1, u2⟩ := r1.at id
    cases he : lkE we id with
    | none => rw [he] at hb; cases hb
    | some e =>
      rw [he] at hb
      cases e with
      | box cs' => obtain ⟨cs, q, _⟩ := u1 cs' he; unfold blkOf; rw [q]; exact hb
      | row e n L cs' => obtain ⟨cs, q, _⟩ := u2 e n L cs' he; unfold blkOf; rw [q]; exact hb
      | dead => cases hb
  refine ⟨q3.chg, q3.m0, q3.df.step (S := fun _ => False) (Mut.refl _ w') rfl (fun _ _ e => e.elim) (fun id b q _ => ⟨id, hM' _ _ q⟩), q3.sz, fun t => r2.at t _ _ _ _ _ _ _ _ q3 hM' _ (q3.tm t), fun id e he => ?_, fun id id' b u1 u2 => q3.sep id id' b (hM' _ _ u1) (hM' _ _ u2), fun id b q => q3.new id b (hM' _ _ q), fun id => ⟨fun cs q => (by obtain ⟨c, u3, _⟩ := (r1.at id).1 cs q; exact (q3.anc id).1 c u3), fun e n len cs q => (by obtain ⟨c, u3, _⟩ := (r1.at id).2 e n len cs q; exact (q3.anc id).2 _ _ _ _ u3)⟩, q3.glo⟩
  obtain ⟨u1, u2⟩ := r1.at id
  cases e with
  | box cs' =>
    obtain ⟨cs, q, hv, hko⟩ := u1 cs' he
    obtain ⟨vs, T, o1, o2, o4⟩ := q3.ent id _ q
    exact ⟨vs, T, o1, VsL.rep q3 hM' hv o2, o4.of hko⟩
  | row e n L cs' =>
    obtain ⟨cs, q, hv⟩ := u2 e n L cs' he
    obtain ⟨vs, o1, o2⟩ := q3.ent id _ q
    exact ⟨vs, o1, VsL.rep q3 hM' hv o2⟩
  | dead => trivial
theorem lend_post {w w' : World} {M0 : Nat → Prop} {N : Nat} {g g' : Gh} {f' : Fr} {a' : Act} {d : D} {v : Value} (old : ∀ id x, lkE pe id = some x → newId N id = false) (hgk : GrowK we pe) (hfin : StG w M0 (lendBd g pe) N g' ⟨f', we⟩ a' w') (v2 : Rep (Mx M0 g' we) w' (some (g', we)) d v) : LendPost M0 w g pe we d (.returned v) w' := by
  have hgr : Grow (g, pe) (g', we) := by
    refine ⟨fun id cs hc => ?_, fun id e n len cs hc => ?_, fun id hc => hgk.deadAt id hc⟩
    · obtain ⟨cs', u1⟩ := (hgk.at id).1 cs hc
      refine ⟨⟨cs', u1⟩, ?_⟩
      rcases (hfin.anc id).1 cs' u1 with u2 | u2
      · rw [old id _ hc] at u2; cases u2
      · exact u2
    · rcases (hgk.at id).2 e n len cs hc with u0 | ⟨e', n', len', cs', u1, u2⟩
      · exact .inl u0
      refine .inr ⟨e', n', len', cs', u1, u2, fun ul => ?_⟩
      rcases (hfin.anc id).2 e' n' len' cs' u1 with u3 | ⟨e0, n0, len0, cs0, u3, u4, u5⟩
      · rw [old id _ hc] at u3; cases u3
      · have hc : lkE pe id = some (.row e n len cs) := hc
        rw [hc] at u3
        cases u3
        exact u5 ul
  exact ⟨v, g', rfl, hfin.chg, hgr, ⟨hfin.ent, hfin.sep, fun id b q => ⟨(hfin.new id b q).1, (hfin.new id b q).2.2⟩⟩, fun id b q hlt => (hfin.new id b q).2.1 hlt, v2⟩
theorem DLend.enter {k : FuncId} {fn : Func} {c : Code} {args : List D} {d : D} (hf : P.funcs[k]? = some fn) (hb : fn.body = some c) (hn : fn.ntmps = N) (hlt : N < 512) (hN : args.length ≤ N) (hold : (pe.all fun p => p.2.isNone || !newId N p.1) = true) (hgk : GrowK we pe)
    (h : DW P N c ⟨argF 0 args, pe⟩ (fun e s => (e = .normal ∨ e = .ret) ∧ ResL P fn N s we d)) : DLend P k args pe we d := by
  subst hn
  refine ⟨?_⟩
  intro M0 g w vals hM hh hv hgl
  have hl := hv.length
  refine (callsFW (r := none) (n := 0)).1 (callsIn_of_wp_marks hf hb trivial ?_)
  have hst : StG w M0 (lendBd g pe) fn.ntmps g ⟨argF 0 args, pe⟩ { tmps := vals.toArray ++ Array.replicate (fn.ntmps - vals.toArray.size) undef, defers := [] } w := by
    refine ⟨Mut.refl _ w, hM, Dfs.nil rfl, by rw [Nat.mod_eq_of_lt hlt]; simp; omega, fun t => ?_, hh.ent, hh.sep, fun id b q => ⟨(hh.new id b q).1, fun _ => ⟨id, q⟩, (hh.new id b q).2⟩, fun id => ⟨fun cs q => .inr rfl, fun e n len cs q => .inr ⟨e, n, len, cs, q, Nat.le_refl _, fun _ => rfl⟩⟩, hgl⟩
    rw [argF_at]
    simp only [Nat.not_lt_zero, if_false, Nat.sub_zero]
    cases hd : args[t]? with
    | none => simp only [Option.getD_none, Rep]
    | some d =>
      obtain ⟨u, hu, hr⟩ := hv.get t hd
      have ht := (List.getElem?_eq_some_iff.1 hu).1
      have : (vals.toArray ++ Array.replicate (fn.ntmps - vals.toArray.size) undef).getD t undef = u := by
        rw [Array.getD_eq_getD_getElem?, Array.getElem?_append_left (by simpa using ht)]
        simp [hu]
      rw [this]
      exact hr
  have old : ∀ id x, lkE pe id = some x → newId fn.ntmps id = false := fun id x hx => old_at hold hx
  refine wpIn_mono (h.go w M0 (lendBd g pe) _ w ⟨_, hst⟩) fun e a1 w1 ⟨s', ⟨q1, ⟨f', r1, r2, r3⟩⟩, ⟨g', q3'⟩⟩ => ?_
  obtain ⟨Ds, d1, d2, d3⟩ := q3'.df
  have := StG.leave (P := P) (fn := fn) (R := LendPost M0 w g pe we d) Ds q3' d1 d2 d3 (fun a' w' q3 ht _ _ => by
    have hfin := lend_end r1 r2 q3
    obtain ⟨v, v1, v2⟩ := r3 _ _ _ _ _ _ hfin
    exact ⟨v, v1, lend_post old hgk hfin v2⟩)
  rcases q1 with rfl | rfl
  · exact this
  · exact this
theorem ResL.unit {fn : Func} {s : DS} {f' : Fr} (hr : fn.results = #[]) (h1 : EsOk s.σ we we) (h2 : FsOk s.σ we s.f f') : ResL P fn N s we (.tup []) :=
  ⟨f', h1, h2, fun w0 M0 B0 g a w hs => ⟨.tuple #[], by simp [results, hr], by simp only [Rep]; exact ⟨[], rfl, by simp only [RepL]⟩⟩⟩
theorem ResL.one {fn : Func} {s : DS} {f' : Fr} {t : Tmp} {d : D} (hr : fn.results = #[.tmp t]) (h1 : EsOk s.σ we we) (h2 : FsOk s.σ we s.f f') (hd : lkF f' t = d) : ResL P fn N s we d :=
  ⟨f', h1, h2, fun w0 M0 B0 g a w hs => ⟨a.tmps.getD t undef, by simp [results, hr], by have := hs.tm t; rw [hd] at this; exact this⟩⟩
end
end Go.Dm
