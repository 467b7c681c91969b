/- A machine over data: one state for another. No condition. -/
import Derived.Test.YtjmljmappfhiaaaDoorNH
set_option linter.unusedSimpArgs false
set_option linter.unusedVariables false
set_option linter.unusedSectionVars false
set_option maxHeartbeats 400000
namespace Go.Dm
open Go Go.RowKit Go.PP
variable [GlobW]

section
variable {P : Program} {N : Nat}

/-- A datum for another when some boxes and rows are shut for good. -/
def Vs (σ σ' : Sg) (d d' : D) : Prop := ∀ (w0 : World) (M0 : Nat → Prop) (B0 : Bd) (N : Nat) (g : Gh) (f : Fr) (a : Act) (w : World), StG w0 M0 B0 N g ⟨f, σ⟩ a w → (∀ id b, blkOf g σ' id = some b → blkOf g σ id = some b) → ∀ v, Rep (Mx M0 g σ) w (some (g, σ)) d v → Rep (Mx M0 g σ') w (some (g, σ')) d' v
def VsL (σ σ' : Sg) : List D → List D → Prop
  | [], [] => True
  | d :: ds, e :: es => Vs σ σ' d e ∧ VsL σ σ' ds es
  | _, _ => False
variable {σ σ' : Sg}
theorem Mx.of {M0 : Nat → Prop} {g : Gh} (h : ∀ id b, blkOf g σ' id = some b → blkOf g σ id = some b) (b : Nat) (hb : Mx M0 g σ' b) : Mx M0 g σ b := by
  rcases hb with hb | ⟨id, hb⟩
  · exact .inl hb
  · exact .inr ⟨id, h id b hb⟩
theorem VsL.rep {w0 : World} {M0 : Nat → Prop} {B0 : Bd} {g : Gh} {f : Fr} {a : Act} {w : World} (hs : StG w0 M0 B0 N g ⟨f, σ⟩ a w) (hM : ∀ id b, blkOf g σ' id = some b → blkOf g σ id = some b) : ∀ {ds es : List D} {vs : List Value}, VsL σ σ' ds es → RepL (Mx M0 g σ) w (some (g, σ)) ds vs → RepL (Mx M0 g σ') w (some (g, σ')) es vs
  | [], [], vs, _, h => by simpa only [RepL] using h
  | d :: ds, e :: es, vs, hl, h => by
    simp only [RepL] at h ⊢
    obtain ⟨u, us, h1, h2, h3⟩ := h
    exact ⟨u, us, h1, hl.1 _ _ _ _ _ _ _ _ hs hM _ h2, VsL.rep hs hM hl.2 h3⟩
  | [], _ :: _, _, h, _ => h.elim
  | _ :: _, [], _, h, _ => h.elim
theorem Vs.any (d : D) : Vs σ σ' d .any := fun _ _ _ _ _ _ _ _ _ _ _ _ => by simp only [Rep]
theorem Vs.pers {d : D} (h : Dm.pers d = true) : Vs σ σ' d d := fun w0 M0 B0 N g f a w hs hM v hv => (hv.down d v h).mono (fun b _ h => Mx.of hM b h) |>.up
theorem Vs.eq {d d' : D} (h : d = d') (hp : Dm.pers d' = true) : Vs σ σ' d d' := by subst h; exact Vs.pers hp
theorem Vs.int {k : IntKind} {a b : Int} (h : a = b) : Vs σ σ' (.flat (.int k a)) (.flat (.int k b)) := h ▸ Vs.pers rfl
theorem Vs.le {d d1 d2 : D} (h : Vs σ σ' d d1) (hl : Le d1 d2) : Vs σ σ' d d2 := fun w0 M0 B0 N g f a w hs hM v hv => hl _ _ _ _ (fun b hb => hs.mlt b (Mx.of hM b hb)) (h _ _ _ _ _ _ _ _ hs hM v hv)
theorem Vs.own {id L e n e' n' : Nat} {cs cs' : List D} (h : lkE σ id = some (.row e n L cs)) (h' : lkE σ' id = some (.row e' n' L cs')) : Vs σ σ' (.own id L) (.own id L) := fun w0 M0 B0 N g f a w hs hM v hv => by
  simp only [Rep] at hv ⊢
  obtain ⟨g', σ1, hG, h1, h4⟩ := hv
  cases hG
  exact ⟨g, σ', rfl, .inr ⟨e', n', L, cs', h', Nat.le_refl _, (row_at h h1).2⟩, h4⟩
theorem Vs.dead {id L : Nat} (h' : lkE σ' id = some .dead) : Vs σ σ' (.own id L) (.own id L) := fun w0 M0 B0 N g f a w hs hM v hv => by
  simp only [Rep] at hv ⊢
  obtain ⟨g', σ1, hG, h1, h4⟩ := hv
  cases hG
  exact ⟨g, σ', rfl, .inl h', h4⟩
theorem Vs.ref {id off : Nat} {cs' : List D} (h' : lkE σ' id = some (.box cs')) : Vs σ σ' (.ref id off) (.ref id off) := fun w0 M0 B0 N g f a w hs hM v hv => by
  simp only [Rep] at hv ⊢
  obtain ⟨g', σ1, cs1, hG, h1, h2⟩ := hv
  cases hG
  exact ⟨g, σ', cs', rfl, h', h2⟩
theorem Vs.agg {cs cs' : List D} (h : VsL σ σ' cs cs') : Vs σ σ' (.agg cs) (.agg cs') := fun w0 M0 B0 N g f a w hs hM v hv => by
  simp only [Rep] at hv ⊢
  obtain ⟨vs, q1, q2⟩ := hv
  exact ⟨vs, q1, VsL.rep hs hM h q2⟩
theorem Vs.tup {cs cs' : List D} (h : VsL σ σ' cs cs') : Vs σ σ' (.tup cs) (.tup cs') := fun w0 M0 B0 N g f a w hs hM v hv => by
  simp only [Rep] at hv ⊢
  obtain ⟨vs, q1, q2⟩ := hv
  exact ⟨vs, q1, VsL.rep hs hM h q2⟩
theorem Vs.clo {fn : Fn} {cs cs' es es' : List D} (h : VsL σ σ' cs cs') (h2 : VsL σ σ' es es') : Vs σ σ' (.clo fn cs es) (.clo fn cs' es') := fun w0 M0 B0 N g f a w hs hM v hv => by
  simp only [Rep] at hv ⊢
  obtain ⟨vs, us, q1, q2, q3⟩ := hv
  exact ⟨vs, us, q1, VsL.rep hs hM h q2, VsL.rep hs hM h2 q3⟩
theorem VsL.pers : ∀ {ds : List D}, persL ds = true → VsL σ σ' ds ds
  | [], _ => trivial
  | d :: ds, h => by
    simp only [persL, Bool.and_eq_true] at h
    exact ⟨Vs.pers h.1, VsL.pers h.2⟩
theorem VsL.eq {ds es : List D} (h : ds = es) (hp : persL es = true) : VsL σ σ' ds es := by subst h; exact VsL.pers hp
/-- What is shut may be read for good. -/
theorem Vs.shut {pe : Sg} {d d' : D} (he : Ens σ pe) (h : Vw pe d d') (hd : ∀ id ∈ keys pe, lkE σ' id = none) : Vs σ σ' d d' := fun w0 M0 B0 N g f a w hs hM v hv => by
  refine (Rep.mono (h w0 M0 B0 N g ⟨f, σ⟩ a w hs he v hv) fun b _ hb => ?_).up
  rcases hb with hb | ⟨id, hb⟩
  · exact .inl hb
  · refine .inr ⟨id, fun hk => ?_, hM id b hb⟩
    have := hd id hk
    simp [blkOf, this] at hb

/-- What stays of boxes and rows. -/
def EsOk (σ σ' : Sg) : Sg → Prop
  | [] => True
  | (id, e) :: r => (match e with
      | none => True
      | some .dead => True
      | some (.box cs') => ∃ cs, lkE σ id = some (.box cs) ∧ VsL σ σ' cs cs' ∧ keysOf cs' = keysOf cs
      | some (.row e n L cs') => ∃ cs, lkE σ id = some (.row e n L cs) ∧ VsL σ σ' cs cs') ∧ EsOk σ σ' r
def FsOk (σ σ' : Sg) (f : Fr) : Fr → Prop
  | [] => True
  | (t, d) :: r => Vs σ σ' (lkF f t) d ∧ FsOk σ σ' f r
theorem FsOk.at {f : Fr} : ∀ {f' : Fr}, FsOk σ σ' f f' → ∀ t, Vs σ σ' (lkF f t) (lkF f' t)
  | [], _, t => Vs.any _
  | (k, d) :: r, h, t => by
    rw [lkF_cons]
    by_cases e : k = t
    · rw [if_pos e, ← e]; exact h.1
    · rw [if_neg e]; exact FsOk.at h.2 t
theorem EsOk.at : ∀ {τ : Sg}, EsOk σ σ' τ → ∀ id, (∀ cs', lkE τ id = some (.box cs') → ∃ cs, lkE σ id = some (.box cs) ∧ VsL σ σ' cs cs' ∧ keysOf cs' = keysOf cs) ∧ (∀ e n L cs', lkE τ id = some (.row e n L cs') → ∃ cs, lkE σ id = some (.row e n L cs) ∧ VsL σ σ' cs cs')
  | [], _, id => ⟨fun cs h => by simp [lkE] at h, fun e n L cs h => by simp [lkE] at h⟩
  | (k, x) :: r, h, id => by
    rw [lkE_cons]
    by_cases e : k = id
    · rw [if_pos e]
      subst e
      have h1 := h.1
      refine ⟨fun cs hc => ?_, fun e n L cs hc => ?_⟩
      · subst hc; exact h1
      · subst hc; exact h1
    · rw [if_neg e]; exact EsOk.at h.2 id
theorem Sub.of {f f' : Fr} (h1 : EsOk σ σ' σ') (h2 : FsOk σ σ' f f') : Sub N ⟨f, σ⟩ ⟨f', σ'⟩ := by
  intro w0 M0 B0 a w ⟨g, hs⟩
  have hM : ∀ id b, blkOf g σ' id = some b → blkOf g σ id = some b := fun id b hb => by
    unfold blkOf at hb
    obtain ⟨q1, q2⟩ := h1.at id
    cases he : lkE σ' id with
    | none => rw [he] at hb; cases hb
    | some e =>
      rw [he] at hb
      cases e with
      | box cs' => obtain ⟨cs, q, _⟩ := q1 cs' he; unfold blkOf; rw [q]; exact hb
      | row e n L cs' => obtain ⟨cs, q, _⟩ := q2 e n L cs' he; unfold blkOf; rw [q]; exact hb
      | dead => cases hb
  refine ⟨g, hs.chg, hs.m0, hs.df, hs.sz, fun t => h2.at t _ _ _ _ _ _ _ _ hs hM _ (hs.tm t), fun id e he => ?_, fun id id' b q1 q2 => hs.sep id id' b (hM _ _ q1) (hM _ _ q2), fun id b q => hs.new id b (hM _ _ q), fun id => ⟨fun cs q => (by obtain ⟨c, q3, _⟩ := (h1.at id).1 cs q; exact (hs.anc id).1 c q3), fun e n len cs q => (by obtain ⟨c, q3, _⟩ := (h1.at id).2 e n len cs q; exact (hs.anc id).2 _ _ _ _ q3)⟩, hs.glo⟩
  obtain ⟨q1, q2⟩ := h1.at id
  cases e with
  | box cs' =>
    obtain ⟨cs, q, hv, hko⟩ := q1 cs' he
    obtain ⟨vs, T, o1, o2, o4⟩ := hs.ent id _ q
    exact ⟨vs, T, o1, VsL.rep hs hM hv o2, o4.of hko⟩
  | row e n L cs' =>
    obtain ⟨cs, q, hv⟩ := q2 e n L cs' he
    obtain ⟨vs, o1, o2⟩ := hs.ent id _ q
    exact ⟨vs, o1, VsL.rep hs hM hv o2⟩
  | dead => trivial

theorem StG.setF {w0 : World} {M0 : Nat → Prop} {B0 : Bd} {g : Gh} {f : Fr} {a : Act} {w : World} (h : StG w0 M0 B0 N g ⟨f, σ⟩ a w) (t : Nat) (d : D) (hd : Rep (Mx M0 g σ) w (some (g, σ)) d (a.tmps.getD t undef)) : StG w0 M0 B0 N g ⟨(t, d) :: f, σ⟩ a w :=
  ⟨h.chg, h.m0, h.df, h.sz, fun k => by
    rw [lkF_cons]
    by_cases e : t = k
    · subst e; rw [if_pos rfl]; exact hd
    · rw [if_neg e]; exact h.tm k, h.ent, h.sep, h.new, h.anc, h.glo⟩
/-- A nil slice in a slot becomes a row of the call's own. -/
theorem Sub.adopt {f : Fr} (t id : Nat) (e n : Nat) (ht : lkF f t = .flat (.slice none 0 0)) (hi : lkE σ id = none) (hid : newId N id = true := by first | exact rfl | decide +kernel) : Sub N ⟨f, σ⟩ ⟨(t, .own id 0) :: f, (id, some (.row e n 0 [])) :: σ⟩ := by
  intro w0 M0 B0 a w ⟨g, hs⟩
  have hn : ∀ k c, lkE σ k = some c → ¬ id = k := fun k c hk e => by subst e; rw [hi] at hk; cases hk
  have hb0 : blkOf g σ id = none := by unfold blkOf; rw [hi]
  have h1 := hs.set1 (g' := ⟨g.blk, fun k => if k = id then .slice none 0 0 else g.row k⟩) (w' := w) id (.row e n 0 []) (fun _ => hid) (Mut.refl _ w) (fun _ _ => rfl) (fun k hk => by simp [hk])
    ⟨fun k cs hk => ⟨⟨cs, by rw [lkE_cons, if_neg (hn k _ hk)]; exact hk⟩, rfl⟩, fun k e n len cs hk => .inr ⟨e, n, len, cs, by rw [lkE_cons, if_neg (hn k _ hk)]; exact hk, Nat.le_refl _, fun _ => by simp [show ¬ k = id from fun q => hn k _ hk q.symm]⟩, fun k hk => by simp only at hk ⊢; rw [lkE_cons, if_neg (hn k _ hk)]; exact hk⟩
    (fun b hb => by simp [blkOf, lkE_cons, Value.ownBlock] at hb) (fun M hM => ⟨[], by simp only [if_pos]; exact OwnR.nil _ _ _, by simp only [RepL]⟩) (dst := none) rfl (d := .any) (v := undef) (fun M hM => by simp only [Rep])
  have hv := hs.tm t
  rw [ht] at hv
  simp only [Rep] at hv
  refine ⟨_, StG.setF (a := a) (f := f) h1 t (.own id 0) ?_⟩
  simp only [Rep]
  exact ⟨_, _, rfl, .inr ⟨e, n, 0, [], by rw [lkE_cons, if_pos rfl], Nat.le_refl _, fun _ => (by simpa using hv)⟩, none, 0, hv⟩
theorem DW.adopt {Q : Exit → DS → Prop} {c : Code} {f : Fr} (t id : Nat) (e n : Nat) (ht : lkF f t = .flat (.slice none 0 0)) (hi : lkE σ id = none) (h : DW P N c ⟨(t, .own id 0) :: f, (id, some (.row e n 0 [])) :: σ⟩ Q) (hid : newId N id = true := by first | exact rfl | decide +kernel) : DW P N c ⟨f, σ⟩ Q := DW.sub (Sub.adopt t id e n ht hi hid) h

/-! the steps, each with its rule -/
variable {ops : Array Oper}
theorem DSeq.tri {i : Nat} {o : Oper} {l : List Oper} {s s' : DS} {pf : List (Operand × D)} {pe : List (Nat × Option Ent)} {d : D} {we : Sg} {qs : List Sd} (ht : Tri P N o pf pe d we) (h1 : Evs s.f pf) (h2 : Ens s.σ pe)
    (hk : DSeq P N ops (i + 1) l ⟨updF s.f o.dst d, we ++ s.σ⟩ s' qs) (hg : o.guard = none) (hd : dstOk N o.dst = true) : DSeq P N ops i (o :: l) s s' (⟨o.dst, pf, pe, d, we⟩ :: qs) :=
  .cons (fun ho => Stp.tri ho hg hd ht) h1 h2 hk
theorem DSeq.on {i j : Nat} {t : Tmp} {b : Bool} {o : Oper} {l : List Oper} {s s' : DS} {pf : List (Operand × D)} {pe : List (Nat × Option Ent)} {d : D} {we : Sg} {qs : List Sd} (hg : o.guard = some (j, b)) (hj : (ops[j]?).bind (·.dst) = some t) (hb : lkF s.f t = .flat (.bool b)) (ht : Tri P N o pf pe d we) (h1 : Evs s.f pf) (h2 : Ens s.σ pe)
    (hk : DSeq P N ops (i + 1) l ⟨updF s.f o.dst d, we ++ s.σ⟩ s' qs) (hd : dstOk N o.dst = true) : DSeq P N ops i (o :: l) s s' (⟨o.dst, (.tmp t, .flat (.bool b)) :: pf, pe, d, we⟩ :: qs) :=
  .cons (fun ho => Stp.on ho hg hj hd ht) ⟨hb, h1⟩ h2 hk
theorem DSeq.off {i j : Nat} {t : Tmp} {b : Bool} {v : Value} {o : Oper} {l : List Oper} {s s' : DS} {qs : List Sd} (hg : o.guard = some (j, b)) (hj : (ops[j]?).bind (·.dst) = some t) (hv : lkF s.f t = .flat v) (hne : (boolOf v != some b) = true) (htn : t < N)
    (hk : DSeq P N ops (i + 1) l ⟨updF s.f o.dst (.flat undef), s.σ⟩ s' qs) (hd : dstOk N o.dst = true) : DSeq P N ops i (o :: l) s s' (⟨o.dst, [(.tmp t, .flat v)], [], .flat undef, []⟩ :: qs) :=
  .cons (fun ho => Stp.off ho hg hj htn hd hne) ⟨hv, trivial⟩ trivial hk

/-! the same, the state handed on -/
structure DC (P : Program) (N : Nat) (ops : Array Oper) (i : Nat) (l : List Oper) (s : DS) (acc : List Sd) (K : DS → List Sd → Prop) : Prop where
  intro ::
  go : ∃ s' qs, DSeq P N ops i l s s' qs ∧ K s' (acc.reverse ++ qs)
theorem DC.nil {i : Nat} {s : DS} {acc : List Sd} {K : DS → List Sd → Prop} (h : K s acc.reverse) : DC P N ops i [] s acc K := ⟨⟨s, [], .nil, by simpa using h⟩⟩
/-- An operation is not guarded, or its guard lets it through. -/
inductive GuardOk (ops : Array Oper) (o : Oper) (f : Fr) : List (Operand × D) → Prop
  | none (h : o.guard = .none) : GuardOk ops o f []
  | on {j : Nat} {b p : Bool} {t : Tmp} (h : o.guard = some (j, b)) (hj : (ops[j]?).bind (·.dst) = some t) (hv : lkF f t = .flat (.bool p)) (hp : p = b) : GuardOk ops o f [(.tmp t, .flat (.bool b))]
theorem DC.tri {i : Nat} {o : Oper} {l : List Oper} {s : DS} {acc : List Sd} {K : DS → List Sd → Prop} {pf gp : List (Operand × D)} {pe : List (Nat × Option Ent)} {d : D} {we : Sg} (ht : Tri P N o pf pe d we) (h1 : Evs s.f pf) (h2 : Ens s.σ pe)
    (hk : DC P N ops (i + 1) l ⟨updF s.f o.dst d, we ++ s.σ⟩ (⟨o.dst, gp ++ pf, pe, d, we⟩ :: acc) K) (hg : GuardOk ops o s.f gp) (hd : dstOk N o.dst = true) : DC P N ops i (o :: l) s acc K := by
  obtain ⟨s', qs, q1, q2⟩ := hk.go
  refine ⟨?_⟩
  cases hg with
  | none h => exact ⟨s', _, DSeq.tri ht h1 h2 q1 h hd, by simpa using q2⟩
  | on h hj hv hp => subst hp; exact ⟨s', _, DSeq.on h hj hv ht h1 h2 q1 hd, by simpa using q2⟩
theorem DC.off {i j : Nat} {t : Tmp} {b : Bool} {v : Value} {o : Oper} {l : List Oper} {s : DS} {acc : List Sd} {K : DS → List Sd → Prop} (hg : o.guard = some (j, b)) (hj : (ops[j]?).bind (·.dst) = some t) (hv : lkF s.f t = .flat v) (hne : (boolOf v != some b) = true) (htn : t < N)
    (hk : DC P N ops (i + 1) l ⟨updF s.f o.dst (.flat undef), s.σ⟩ (⟨o.dst, [(.tmp t, .flat v)], [], .flat undef, []⟩ :: acc) K) (hd : dstOk N o.dst = true) : DC P N ops i (o :: l) s acc K := by
  obtain ⟨s', qs, q1, q2⟩ := hk.go
  refine ⟨?_⟩
  exact ⟨s', _, DSeq.off hg hj hv hne htn q1 hd, by simpa using q2⟩
theorem DC.offB {i j : Nat} {t : Tmp} {b p : Bool} {o : Oper} {l : List Oper} {s : DS} {acc : List Sd} {K : DS → List Sd → Prop} (hg : o.guard = some (j, b)) (hj : (ops[j]?).bind (·.dst) = some t) (hv : lkF s.f t = .flat (.bool p)) (hp : p = !b) (htn : t < N)
    (hk : DC P N ops (i + 1) l ⟨updF s.f o.dst (.flat undef), s.σ⟩ (⟨o.dst, [(.tmp t, .flat (.bool p))], [], .flat undef, []⟩ :: acc) K) (hd : dstOk N o.dst = true) : DC P N ops i (o :: l) s acc K :=
  DC.off hg hj hv (by subst hp; cases b <;> rfl) htn hk hd
theorem DW.regionC {Q : Exit → DS → Prop} {s : DS} {id : Nat} {l : List Oper} (h : DC P N l.toArray 0 l s [] (fun s' _ => Q .normal s')) : DW P N (.region id l.toArray false) s Q := by
  obtain ⟨s', qs, q1, q2⟩ := h.go
  exact DW.region q1 q2
theorem DW.drawnC {Q : Exit → DS → Prop} {s : DS} {id : Nat} {l : List Oper} (hm : P.follows .mixedOrders = true) (hlt : ((List.range l.length).all fun i => ((l[i]?).map fun o => o.after.all fun e => !Region.binds .any e || decide (e.on < i)).getD true) = true)
    (h : DC P N l.toArray 0 l s [] (fun s' qs => rOk (masks .any l []) (qs.map Sd.fp) = true ∧ Q .normal s')) : DW P N (.region id l.toArray true) s Q := by
  obtain ⟨s', qs, q1, q2, q3⟩ := h.go
  exact DW.drawn q1 hm q2 hlt q3
end
end Go.Dm
