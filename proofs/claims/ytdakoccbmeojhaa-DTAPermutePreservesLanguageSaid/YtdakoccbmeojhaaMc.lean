/- A machine over data: memory lent to a call, which may change it. No condition. -/
import Derived.Test.YtdakoccbmeojhaaMb
set_option linter.unusedSimpArgs false
set_option linter.unusedVariables false
set_option maxHeartbeats 400000
namespace Go.Dm
open Go Go.RowKit Go.PP

theorem fnd_lk {u : Sg} {k : Nat} {x : Option Ent} (h : fnd u k = some x) : lkE u k = x := by
  have := lkE_app u [] k
  rw [List.append_nil, h] at this
  simpa using this
theorem fnd_lk0 {u : Sg} {k : Nat} (h : fnd u k = none) : lkE u k = none := by
  have := lkE_app u [] k
  rw [List.append_nil, h] at this
  simpa [lkE] using this
theorem fnd_ens {σ : Sg} {k : Nat} {x : Option Ent} : ∀ {u : Sg}, Ens σ u → fnd u k = some x → lkE σ k = x
  | [], _, h => by simp [fnd] at h
  | (a, b) :: r, he, h => by
    simp only [fnd] at h
    by_cases e : a = k
    · subst e; simp at h; rw [← h]; exact he.1
    · have hb : (a == k) = false := by
        cases hb : (a == k) with
        | false => rfl
        | true => exact absurd (eq_of_beq hb) e
      simp [hb, e] at h; exact fnd_ens he.2 h
theorem fnd_keys {k : Nat} : ∀ {u v : Sg}, keys u = keys v → (fnd u k).isSome = (fnd v k).isSome
  | [], [], _ => rfl
  | [], _ :: _, h => by simp [keys] at h
  | _ :: _, [], h => by simp [keys] at h
  | (a, b) :: r, (a', b') :: r', h => by
    simp only [keys, List.map_cons, List.cons.injEq] at h
    obtain ⟨rfl, h⟩ := h
    simp only [fnd]
    have ih := fnd_keys (k := k) (u := r) (v := r') h
    cases (a == k) <;> simp [ih]
theorem fnd_all {k : Nat} : ∀ {u : Sg}, (u.all fun p => p.2.isSome) = true → (fnd u k).isSome = true → lkE u k ≠ none
  | [], _, h => by simp [fnd] at h
  | (a, b) :: r, ha, h => by
    simp only [List.all_cons, Bool.and_eq_true] at ha
    simp only [fnd] at h
    simp only [lkE]
    cases hb : (a == k)
    · simp only [hb, cond_false] at h ⊢; exact fnd_all ha.2 h
    · simp only [cond_true]; intro e; rw [e] at ha; simp at ha

/-- Boxes and rows lie as they are said to. -/
structure Hold (M0 : Nat → Prop) (w : World) (g : Gh) (σ : Sg) : Prop where
  ent : ∀ id e, lkE σ id = some e → EntOk (Mx M0 g σ) w g σ id e
  sep : ∀ id id' b, blkOf g σ id = some b → blkOf g σ id' = some b → id = id'
  new : ∀ id b, blkOf g σ id = some b → b < w.heap.size ∧ ¬ M0 b
def LendPost (M0 : Nat → Prop) (w : World) (g : Gh) (pe we : Sg) (d : D) (e : Ending) (w' : World) : Prop :=
  ∃ v g', e = .returned v ∧ Mut (fun b => ∃ id, blkOf g pe id = some b) w w' ∧ Grow (g, pe) (g', we) ∧ Hold M0 w' g' we ∧
    (∀ id b, blkOf g' we id = some b → b < w.heap.size → ∃ id', blkOf g pe id' = some b) ∧ Rep (Mx M0 g' we) w' (some (g', we)) d v
/-- The contract of a call that is lent memory. -/
def DLend (P : Program) (k : FuncId) (args : List D) (pe we : Sg) (d : D) : Prop :=
  ∀ (M0 : Nat → Prop) (g : Gh) (w : World) (vals : List Value), (∀ b, M0 b → b < w.heap.size) → Hold M0 w g pe → RepL (Mx M0 g pe) w (some (g, pe)) args vals → Calls P k vals.toArray w (LendPost M0 w g pe we d)

/-- A datum seen from the lent part alone. -/
def Vl (pe : Sg) (d d' : D) : Prop := ∀ (M : Nat → Prop) (w : World) (g : Gh) (σ : Sg), Ens σ pe → (∀ b, M b → b < w.heap.size) → ∀ v, Rep M w (some (g, σ)) d v → Rep M w (some (g, pe)) d' v
def VlL (pe : Sg) : List D → List D → Prop
  | [], [] => True
  | d :: ds, e :: es => Vl pe d e ∧ VlL pe ds es
  | _, _ => False
variable {pe : Sg}
theorem VlL.rep {M : Nat → Prop} {w : World} {g : Gh} {σ : Sg} (he : Ens σ pe) (hM : ∀ b, M b → b < w.heap.size) : ∀ {ds es : List D} {vs : List Value}, VlL pe ds es → RepL M w (some (g, σ)) ds vs → RepL M w (some (g, pe)) es vs
  | [], [], vs, _, h => by simpa only [RepL] using h
  | d :: ds, e :: es, vs, hl, h => by
    simp only [RepL] at h ⊢
    obtain ⟨u, us, h1, h2, h3⟩ := h
    exact ⟨u, us, h1, hl.1 M w g σ he hM _ h2, VlL.rep he hM hl.2 h3⟩
  | [], _ :: _, _, h, _ => h.elim
  | _ :: _, [], _, h, _ => h.elim
theorem Vl.pers {d : D} (h : Dm.pers d = true) : Vl pe d d := fun M w g σ _ _ v hv => (hv.down d v h).up
theorem Vl.le {d d1 d2 : D} (h : Vl pe d d1) (hl : Le d1 d2) : Vl pe d d2 := fun M w g σ he hM v hv => hl _ _ _ _ hM (h M w g σ he hM v hv)
theorem Vl.p {d d' : D} (h : Dm.pers d = true) (hl : Le d d') : Vl pe d d' := Vl.le (Vl.pers h) hl
theorem Vl.ref {id off : Nat} {cs : List D} (hm : fnd pe id = some (some (.box cs))) : Vl pe (.ref id off) (.ref id off) := fun M w g σ he _ v hv => by
  simp only [Rep] at hv ⊢
  obtain ⟨g', σ1, cs1, hG, h1, h2⟩ := hv
  cases hG
  exact ⟨g, pe, cs, rfl, fnd_lk hm, h2⟩
theorem Vl.own {id L e n : Nat} {cs : List D} (hm : fnd pe id = some (some (.row e n L cs))) : Vl pe (.own id L) (.own id L) := fun M w g σ he _ v hv => by
  simp only [Rep] at hv ⊢
  obtain ⟨g', σ1, hG, h1, h4⟩ := hv
  cases hG
  exact ⟨g, pe, rfl, .inr ⟨e, n, L, cs, fnd_lk hm, Nat.le_refl _, (row_at (fnd_ens he hm) h1).2⟩, h4⟩
theorem Vl.agg {cs cs' : List D} (h : VlL pe cs cs') : Vl pe (.agg cs) (.agg cs') := fun M w g σ he hM v hv => by
  simp only [Rep] at hv ⊢
  obtain ⟨vs, q1, q2⟩ := hv
  exact ⟨vs, q1, VlL.rep he hM h q2⟩
theorem Vl.tup {cs cs' : List D} (h : VlL pe cs cs') : Vl pe (.tup cs) (.tup cs') := fun M w g σ he hM v hv => by
  simp only [Rep] at hv ⊢
  obtain ⟨vs, q1, q2⟩ := hv
  exact ⟨vs, q1, VlL.rep he hM h q2⟩
theorem Vl.clo {fn : Fn} {cs cs' es es' : List D} (h : VlL pe cs cs') (h2 : VlL pe es es') : Vl pe (.clo fn cs es) (.clo fn cs' es') := fun M w g σ he hM v hv => by
  simp only [Rep] at hv ⊢
  obtain ⟨vs, us, q1, q2, q3⟩ := hv
  exact ⟨vs, us, q1, VlL.rep he hM h q2, VlL.rep he hM h2 q3⟩
theorem VlL.pers : ∀ {ds : List D}, persL ds = true → VlL pe ds ds
  | [], _ => trivial
  | d :: ds, h => by
    simp only [persL, Bool.and_eq_true] at h
    exact ⟨Vl.pers h.1, VlL.pers h.2⟩
/-- The lent part holds only what is persistent or lent. -/
def EsL (pe : Sg) : Sg → Prop
  | [] => True
  | (_, e) :: r => (match e with
      | none => True
      | some .dead => True
      | some (.box cs) => VlL pe cs cs
      | some (.row _ _ _ cs) => VlL pe cs cs) ∧ EsL pe r
theorem EsL.at : ∀ {τ : Sg}, EsL pe τ → ∀ id, (∀ cs, lkE τ id = some (.box cs) → VlL pe cs cs) ∧ (∀ e n L cs, lkE τ id = some (.row e n L cs) → VlL pe cs cs)
  | [], _, id => ⟨fun cs h => by simp [lkE] at h, fun e n L cs h => by simp [lkE] at h⟩
  | (k, x) :: r, h, id => by
    rw [lkE_cons]
    by_cases e : k = id
    · rw [if_pos e]
      have h1 := h.1
      refine ⟨fun cs hc => ?_, fun e n L cs hc => ?_⟩
      · subst hc; exact h1
      · subst hc; exact h1
    · rw [if_neg e]; exact EsL.at h.2 id

section
variable {P : Program} {N : Nat} {we : Sg}
theorem EntOk.step {M M' S : Nat → Prop} {w w' : World} {g g' : Gh} {σ σ' : Sg} (hG : Grow (g, σ) (g', σ')) (m : Mut S w w') (hS : ∀ b, b < w.heap.size → S b → M b) (hM : ∀ b, b < w.heap.size → M' b → M b) {id : Nat} {e : Ent}
    (hb : ∀ cs, e = .box cs → g'.blk id = g.blk id ∧ ¬ S (g.blk id)) (hr : ∀ e1 n len cs, e = .row e1 n len cs → g'.row id = g.row id ∧ ∀ b, (g.row id).ownBlock = some b → ¬ S b) (h : EntOk M w g σ id e) : EntOk M' w' g' σ' id e := by
  cases e with
  | box cs =>
    obtain ⟨vs, T, h1, h2⟩ := h
    obtain ⟨q1, q2⟩ := hb cs rfl
    exact ⟨vs, T, by rw [q1]; exact m.heap h1 q2, RepL.step (G := some _) (G' := some _) hG m hS hM cs vs h2⟩
  | row e1 n len cs =>
    obtain ⟨vs, h1, h2⟩ := h
    obtain ⟨q1, q2⟩ := hr e1 n len cs rfl
    exact ⟨vs, by rw [q1]; exact ownsRow_mut h1 m q2, RepL.step (G := some _) (G' := some _) hG m hS hM cs vs h2⟩
  | dead => trivial

/-- A datum seen from the lent part alone, with some rows and boxes given away. -/
def Xl (M0 : Nat → Prop) (g : Gh) (σ lp gp : Sg) (b : Nat) : Prop := M0 b ∨ ∃ id, (fnd lp id).isSome = false ∧ (fnd gp id).isSome = false ∧ blkOf g σ id = some b
def Vg (lp gp : Sg) (d d' : D) : Prop := ∀ (w0 : World) (M0 : Nat → Prop) (B0 : Bd) (N : Nat) (g : Gh) (s : DS) (a : Act) (w : World), StG w0 M0 B0 N g s a w → Ens s.σ (lp ++ gp) → ∀ v, Rep (Mx M0 g s.σ) w (some (g, s.σ)) d v → Rep (Mx (Xl M0 g s.σ lp gp) g lp) w (some (g, lp)) d' v
def VgL (lp gp : Sg) : List D → List D → Prop
  | [], [] => True
  | d :: ds, e :: es => Vg lp gp d e ∧ VgL lp gp ds es
  | _, _ => False
theorem Ens.left {σ : Sg} : ∀ {l r : List (Nat × Option Ent)}, Ens σ (l ++ r) → Ens σ l
  | [], _, _ => trivial
  | p :: l, r, h => ⟨h.1, Ens.left h.2⟩
theorem Ens.right {σ : Sg} : ∀ {l r : List (Nat × Option Ent)}, Ens σ (l ++ r) → Ens σ r
  | [], _, h => h
  | p :: l, r, h => Ens.right h.2
theorem lent_blk {g : Gh} {σ lp : Sg} (he : Ens σ lp) {id b : Nat} (h : blkOf g lp id = some b) : (fnd lp id).isSome = true ∧ blkOf g σ id = some b := by
  cases hb : fnd lp id with
  | none => unfold blkOf at h; rw [fnd_lk0 hb] at h; cases h
  | some x =>
    refine ⟨rfl, ?_⟩
    unfold blkOf at h ⊢
    rw [fnd_ens he hb]
    rw [fnd_lk hb] at h
    exact h
theorem Xl.sub {M0 : Nat → Prop} {g : Gh} {σ lp gp : Sg} (he : Ens σ lp) {b : Nat} (h : Mx (Xl M0 g σ lp gp) g lp b) : Mx M0 g σ b := by
  rcases h with (h | ⟨id, _, _, h⟩) | ⟨id, h⟩
  · exact .inl h
  · exact .inr ⟨id, h⟩
  · exact .inr ⟨id, (lent_blk he h).2⟩
theorem Vg.of {lp gp : Sg} {d d' : D} (h : Vl lp d d') : Vg lp gp d d' := fun w0 M0 B0 N g s a w hs he v hv =>
  h _ w g s.σ he.left (fun b hb => hs.mlt b (Xl.sub he.left hb)) v (hv.mono fun b _ hb => Xl.sub he.left hb)
theorem Vg.give {lp gp : Sg} {d d' : D} (hd : ∀ id, id ∈ keys gp → (fnd lp id).isSome = false) (h : Vw gp d d') : Vg lp gp d d' := fun w0 M0 B0 N g s a w hs he v hv => by
  refine (Rep.mono (h w0 M0 B0 N g s a w hs he.right v hv) fun b _ hb => ?_).up
  rcases hb with (hb | ⟨id, h1, h2, hb⟩) | ⟨id, hb⟩
  · exact .inl hb
  · refine .inr ⟨id, fun hk => ?_, hb⟩
    obtain ⟨x, hx⟩ := fnd_some hk
    rw [hx] at h2; cases h2
  · obtain ⟨q1, q2⟩ := lent_blk he.left hb
    refine .inr ⟨id, fun hk => ?_, q2⟩
    rw [hd id hk] at q1; cases q1
theorem VgL.of {lp gp : Sg} : ∀ {ds es : List D}, VlL lp ds es → VgL lp gp ds es
  | [], [], _ => trivial
  | d :: ds, e :: es, h => ⟨Vg.of h.1, VgL.of h.2⟩
  | [], _ :: _, h => h.elim
  | _ :: _, [], h => h.elim
theorem VgL.rep {lp gp : Sg} {w0 : World} {M0 : Nat → Prop} {B0 : Bd} {N : Nat} {g : Gh} {s : DS} {a : Act} {w : World} (hs : StG w0 M0 B0 N g s a w) (he : Ens s.σ (lp ++ gp)) : ∀ {ds es : List D} {vs : List Value}, VgL lp gp ds es → RepL (Mx M0 g s.σ) w (some (g, s.σ)) ds vs → RepL (Mx (Xl M0 g s.σ lp gp) g lp) w (some (g, lp)) es vs
  | [], [], vs, _, h => by simpa only [RepL] using h
  | d :: ds, e :: es, vs, hl, h => by
    simp only [RepL] at h ⊢
    obtain ⟨u, us, h1, h2, h3⟩ := h
    exact ⟨u, us, h1, hl.1 _ _ _ _ _ _ _ _ hs he _ h2, VgL.rep hs he hl.2 h3⟩
  | [], _ :: _, _, h, _ => h.elim
  | _ :: _, [], _, h, _ => h.elim
/-- The lent part holds what is persistent, lent or given. -/
def EsG (lp gp : Sg) : Sg → Prop
  | [] => True
  | (_, e) :: r => (match e with
      | none => True
      | some .dead => True
      | some (.box cs) => VgL lp gp cs cs
      | some (.row _ _ _ cs) => VgL lp gp cs cs) ∧ EsG lp gp r
theorem EsG.at {lp gp : Sg} : ∀ {τ : Sg}, EsG lp gp τ → ∀ id, (∀ cs, lkE τ id = some (.box cs) → VgL lp gp cs cs) ∧ (∀ e n L cs, lkE τ id = some (.row e n L cs) → VgL lp gp cs cs)
  | [], _, id => ⟨fun cs h => by simp [lkE] at h, fun e n L cs h => by simp [lkE] at h⟩
  | (k, x) :: r, h, id => by
    rw [lkE_cons]
    by_cases e : k = id
    · rw [if_pos e]
      have h1 := h.1
      refine ⟨fun cs hc => ?_, fun e n L cs hc => ?_⟩
      · subst hc; exact h1
      · subst hc; exact h1
    · rw [if_neg e]; exact EsG.at h.2 id
theorem EsG.of {lp gp : Sg} : ∀ {τ : Sg}, EsL lp τ → EsG lp gp τ
  | [], _ => trivial
  | (k, x) :: r, h => by
    refine ⟨?_, EsG.of h.2⟩
    have h1 := h.1
    match x with
    | none => trivial
    | some .dead => trivial
    | some (.box cs) => exact VgL.of h1
    | some (.row _ _ _ cs) => exact VgL.of h1
def deads (gp : Sg) : Sg := gp.map fun p => (p.1, some Ent.dead)
theorem fnd_deads (id : Nat) : ∀ gp : Sg, fnd (deads gp) id = if (fnd gp id).isSome then some (some .dead) else none
  | [] => rfl
  | (k, x) :: r => by
    have ih := fnd_deads id r
    by_cases hb : k = id
    · subst hb; simp [deads, fnd]
    · have hb' : (k == id) = false := by simpa using hb
      simp only [deads, List.map_cons, fnd, hb', cond_false] at ih ⊢
      exact ih
theorem fnd_append (id : Nat) : ∀ u v : Sg, fnd (u ++ v) id = (fnd u id).or (fnd v id)
  | [], v => by simp [fnd]
  | (k, x) :: r, v => by
    have ih := fnd_append id r v
    by_cases hb : k = id
    · subst hb; simp [fnd]
    · have hb' : (k == id) = false := by simpa using hb
      simp only [List.cons_append, fnd, hb', cond_false]
      exact ih

def isRowE : Option Ent → Bool
  | some (.row ..) => true
  | _ => false
theorem rows_at {gp : Sg} (h : (gp.all fun p => isRowE p.2) = true) {id : Nat} (hi : (fnd gp id).isSome = true) : ∃ e n len cs, lkE gp id = some (.row e n len cs) := by
  induction gp with
  | nil => simp [fnd] at hi
  | cons p r ih =>
    obtain ⟨k, x⟩ := p
    simp only [List.all_cons, Bool.and_eq_true] at h
    simp only [fnd] at hi
    simp only [lkE]
    by_cases hb : k = id
    · subst hb
      simp only [beq_self_eq_true, cond_true]
      match x, h.1 with
      | some (.row e n len cs), _ => exact ⟨e, n, len, cs, rfl⟩
    · have hb' : (k == id) = false := by simpa using hb
      simp only [hb', cond_false] at hi ⊢; exact ih h.2 hi

theorem new_at {id : Nat} : ∀ {u : Sg}, (u.all fun p => p.2.isSome || newId N p.1) = true → (fnd u id).isSome = true → lkE u id = none → newId N id = true
  | [], _, h, _ => by simp [fnd] at h
  | (k, x) :: r, ha, h, hn => by
    simp only [List.all_cons, Bool.and_eq_true] at ha
    simp only [fnd] at h
    simp only [lkE] at hn
    by_cases hb : k = id
    · subst hb
      simp only [beq_self_eq_true, cond_true] at hn
      subst hn
      simpa using ha.1
    · have hb' : (k == id) = false := by simpa using hb
      simp only [hb', cond_false] at h hn
      exact new_at ha.2 h hn

/-- A call that is lent memory (lp, which comes back as lw) and given rows (gp). -/
theorem Tri.lend {o : Oper} {k : FuncId} {pf : List (Operand × D)} {d : D} {args : List D} {lp lw gp : Sg} (hf : DLend P k args lp lw d) (hkeys : keys lp = keys lw) (hnew : (lp.all fun p => p.2.isSome || newId N p.1) = true) (hrows : (gp.all fun p => isRowE p.2) = true) (hdis : ∀ id, (fnd lp id).isSome = true → (fnd gp id).isSome = false) (hE : EsG lp gp lp)
    (hex : ∀ (w0 : World) (M0 : Nat → Prop) (B0 : Bd) (g : Gh) (s : DS) (a : Act) (w : World), StG w0 M0 B0 N g s a w → Ens s.σ (lp ++ gp) → Vals (Mx M0 g s.σ) w (some (g, s.σ)) a.eval pf → ∃ vals : List Value, (execOp a.eval o).run P w = .ok (.enter k vals.toArray) w ∧ RepL (Mx (Xl M0 g s.σ lp gp) g lp) w (some (g, lp)) args vals) : Tri P N o pf (lp ++ gp) d (lw ++ deads gp) := by
  refine ⟨?_⟩
  intro w0 M0 B0 s a w next Q h1 h2 hd ⟨g, hs⟩ hk
  obtain ⟨vals, hrun, hargs⟩ := hex w0 M0 B0 g s a w hs h2 (hs.vals h1)
  unfold Oper.wp
  rw [hrun, Oper.upon_enter]
  have hl := h2.left
  have hr := h2.right
  have hsm : ∀ id, (fnd lw id).isSome = (fnd lp id).isSome := fun id => fnd_keys hkeys.symm
  have e3 : ∀ id, (fnd lp id).isSome = true → lkE s.σ id = lkE lp id := fun id h => by
    obtain ⟨x, hx⟩ := Option.isSome_iff_exists.1 h
    rw [fnd_ens hl hx, fnd_lk hx]
  have eg : ∀ id, (fnd gp id).isSome = true → ∃ e n len cs, lkE s.σ id = some (.row e n len cs) := fun id h => by
    obtain ⟨x, hx⟩ := Option.isSome_iff_exists.1 h
    obtain ⟨e, n, len, cs, q⟩ := rows_at hrows h
    exact ⟨e, n, len, cs, by rw [fnd_ens hr hx, ← fnd_lk hx]; exact q⟩
  have e4 : ∀ id, (fnd lp id).isSome = false → lkE lp id = none := fun id h => fnd_lk0 (by simpa using h)
  have e5 : ∀ id, (fnd lp id).isSome = false → lkE lw id = none := fun id h => fnd_lk0 (by have := (hsm id).trans h; simpa using this)
  have e1 : ∀ id, (fnd lp id).isSome = true → lkE (lw ++ deads gp ++ s.σ) id = lkE lw id := fun id h => by
    obtain ⟨x, hx⟩ := Option.isSome_iff_exists.1 ((hsm id).trans h)
    rw [lkE_app, fnd_append, hx, fnd_lk hx]; rfl
  have eD : ∀ id, (fnd lp id).isSome = false → (fnd gp id).isSome = true → lkE (lw ++ deads gp ++ s.σ) id = some .dead := fun id h h' => by
    rw [lkE_app, fnd_append, show fnd lw id = none by have := (hsm id).trans h; simpa using this, fnd_deads, if_pos h']; rfl
  have e2 : ∀ id, (fnd lp id).isSome = false → (fnd gp id).isSome = false → lkE (lw ++ deads gp ++ s.σ) id = lkE s.σ id := fun id h h' => by
    rw [lkE_app, fnd_append, show fnd lw id = none by have := (hsm id).trans h; simpa using this, fnd_deads, if_neg (by rw [h']; simp)]; rfl
  have b3' : ∀ id b, blkOf g lp id = some b → (fnd lp id).isSome = true ∧ blkOf g s.σ id = some b := fun id b h => lent_blk hl h
  have b3 : ∀ id, (fnd lp id).isSome = true → blkOf g s.σ id = blkOf g lp id := fun id h => by unfold blkOf; rw [e3 id h]
  have hmlt : ∀ b, Xl M0 g s.σ lp gp b → b < w.heap.size := fun b hb => by
    rcases hb with hb | ⟨id, _, _, hb⟩
    · exact hs.mlt b (.inl hb)
    · exact (hs.new id b hb).1
  have hhold : Hold (Xl M0 g s.σ lp gp) w g lp := by
    refine ⟨fun id e he => ?_, fun id id' b q1 q2 => hs.sep id id' b (b3' id b q1).2 (b3' id' b q2).2, fun id b q => ⟨(hs.new id b (b3' id b q).2).1, ?_⟩⟩
    · have hi : (fnd lp id).isSome = true := by
        cases hb : (fnd lp id).isSome
        · rw [e4 id hb] at he; cases he
        · rfl
      have h0 := hs.ent id e (by rw [e3 id hi]; exact he)
      cases e with
      | box cs =>
        obtain ⟨vs, T, q1, q2⟩ := h0
        exact ⟨vs, T, q1, VgL.rep hs h2 ((hE.at id).1 cs he) q2⟩
      | row e1 n len cs =>
        obtain ⟨vs, q1, q2⟩ := h0
        exact ⟨vs, q1, VgL.rep hs h2 ((hE.at id).2 e1 n len cs he) q2⟩
      | dead => trivial
    · rintro (hm | ⟨id', hi', _, hb'⟩)
      · exact (hs.new id b (b3' id b q).2).2.2 hm
      · have := hs.sep id id' b (b3' id b q).2 hb'
        subst this
        rw [(b3' id b q).1] at hi'; cases hi'
  refine (hf _ g w vals hmlt hhold hargs).mono fun e w' ⟨v, g', q1, m, hgr, hh, hnw, hrep⟩ => ?_
  subst q1
  have hgp : ∃ g2 : Gh, (∀ id, (fnd lp id).isSome = true → g2.blk id = g'.blk id ∧ g2.row id = g'.row id) ∧ (∀ id, (fnd lp id).isSome = false → g2.blk id = g.blk id ∧ g2.row id = g.row id) :=
    ⟨⟨fun id => if (fnd lp id).isSome then g'.blk id else g.blk id, fun id => if (fnd lp id).isSome then g'.row id else g.row id⟩, fun id h => ⟨by simp [h], by simp [h]⟩, fun id h => ⟨by simp [h], by simp [h]⟩⟩
  obtain ⟨g2, k1, k2⟩ := hgp
  generalize hσ1 : lw ++ deads gp ++ s.σ = σ1 at *
  have b1 : ∀ id, (fnd lp id).isSome = true → blkOf g2 σ1 id = blkOf g' lw id := fun id h => by unfold blkOf; rw [e1 id h, (k1 id h).1, (k1 id h).2]
  have b2 : ∀ id b, (fnd lp id).isSome = false → blkOf g2 σ1 id = some b → (fnd gp id).isSome = false ∧ blkOf g s.σ id = some b := fun id b h hb => by
    cases hg : (fnd gp id).isSome
    · unfold blkOf at hb ⊢; rw [e2 id h hg, (k2 id h).1, (k2 id h).2] at hb; exact ⟨rfl, hb⟩
    · unfold blkOf at hb; rw [eD id h hg] at hb; cases hb
  have gr1 : Grow (g, s.σ) (g2, σ1) := by
    refine ⟨fun id cs h => ?_, fun id e n len cs h => ?_, fun id h => ?_⟩
    · cases hb : (fnd lp id).isSome
      · cases hg : (fnd gp id).isSome
        · exact ⟨⟨cs, by simp only; rw [e2 id hb hg]; exact h⟩, (k2 id hb).1⟩
        · obtain ⟨_, _, _, _, q⟩ := eg id hg
          simp only at h; rw [q] at h; cases h
      · obtain ⟨⟨cs', q1⟩, q2⟩ := hgr.box id cs (by simp only at h ⊢; rw [← e3 id hb]; exact h)
        exact ⟨⟨cs', by simp only at q1 ⊢; rw [e1 id hb]; exact q1⟩, (k1 id hb).1.trans q2⟩
    · cases hb : (fnd lp id).isSome
      · cases hg : (fnd gp id).isSome
        · exact .inr ⟨e, n, len, cs, by simp only; rw [e2 id hb hg]; exact h, Nat.le_refl _, fun _ => (k2 id hb).2⟩
        · exact .inl (eD id hb hg)
      · rcases hgr.row id e n len cs (by simp only at h ⊢; rw [← e3 id hb]; exact h) with q | ⟨e', n', len', cs', q1, q2, q3⟩
        · exact .inl (by simp only at q ⊢; rw [e1 id hb]; exact q)
        · exact .inr ⟨e', n', len', cs', by simp only at q1 ⊢; rw [e1 id hb]; exact q1, q2, fun q => (k1 id hb).2.trans (q3 q)⟩
    · cases hb : (fnd lp id).isSome
      · cases hg : (fnd gp id).isSome
        · simp only; rw [e2 id hb hg]; exact h
        · exact eD id hb hg
      · have q := hgr.dead id (by simp only at h ⊢; rw [← e3 id hb]; exact h)
        simp only at q ⊢; rw [e1 id hb]; exact q
  have gr2 : Grow (g', lw) (g2, σ1) := by
    refine ⟨fun id cs h => ?_, fun id e n len cs h => ?_, fun id h => ?_⟩
    · cases hb : (fnd lp id).isSome
      · simp only at h; rw [e5 id hb] at h; cases h
      · exact ⟨⟨cs, by simp only at h ⊢; rw [e1 id hb]; exact h⟩, (k1 id hb).1⟩
    · cases hb : (fnd lp id).isSome
      · simp only at h; rw [e5 id hb] at h; cases h
      · exact .inr ⟨e, n, len, cs, by simp only at h ⊢; rw [e1 id hb]; exact h, Nat.le_refl _, fun _ => (k1 id hb).2⟩
    · cases hb : (fnd lp id).isSome
      · simp only at h; rw [e5 id hb] at h; cases h
      · simp only at h ⊢; rw [e1 id hb]; exact h
  have hM1 : ∀ b, b < w.heap.size → Mx M0 g2 σ1 b → Mx M0 g s.σ b := fun b hlt h => by
    rcases h with h | ⟨id, h⟩
    · exact .inl h
    · cases hb : (fnd lp id).isSome
      · exact .inr ⟨id, (b2 id b hb h).2⟩
      · rw [b1 id hb] at h
        obtain ⟨id', h'⟩ := hnw id b h hlt
        exact .inr ⟨id', (b3' id' b h').2⟩
  have hS : ∀ b, b < w.heap.size → (∃ id, blkOf g lp id = some b) → Mx M0 g s.σ b := fun b _ ⟨id, h⟩ => .inr ⟨id, (b3' id b h).2⟩
  have hM2 : ∀ b, b < w'.heap.size → Mx M0 g2 σ1 b → Mx (Xl M0 g s.σ lp gp) g' lw b := fun b hlt h => by
    rcases h with h | ⟨id, h⟩
    · exact .inl (.inl h)
    · cases hb : (fnd lp id).isSome
      · obtain ⟨q1, q2⟩ := b2 id b hb h
        exact .inl (.inr ⟨id, hb, q1, q2⟩)
      · rw [b1 id hb] at h; exact .inr ⟨id, h⟩
  have st : ∀ d v, Rep (Mx M0 g s.σ) w (some (g, s.σ)) d v → Rep (Mx M0 g2 σ1) w' (some (g2, σ1)) d v := fun d v h => h.step (G := some _) (G' := some _) gr1 m hS hM1
  refine hk _ _ ⟨g2, hs.chg.trans' m (fun b hlt ⟨id, hb⟩ => (hs.new id b (b3' id b hb).2).2.1 hlt), hs.m0, by rw [put_defers]; exact hs.df, by rw [put_size]; exact hs.sz, fun t => ?_, fun id e he => ?_, fun id id' b q1 q2 => ?_, fun id b q => ?_, hs.anc.grow gr1 (fun id h1 h2 => ?_)⟩
  · rw [put_getD _ _ _ _ (fun k hk => by rw [hs.sz]; rw [hk] at hd; simpa [dstOk] using hd)]
    have hrep' := hrep.step (M' := Mx M0 g2 σ1) (S := fun _ => False) (G := some _) (G' := some (g2, σ1)) gr2 (Mut.refl _ w') (fun _ _ e => e.elim) hM2
    cases hdst : o.dst with
    | none => simpa [updF] using st _ _ (hs.tm t)
    | some k =>
      simp only [updF, lkF_cons, Option.some.injEq]
      by_cases e : k = t
      · rw [if_pos e, if_pos e]; exact hrep'
      · rw [if_neg e, if_neg e]; exact st _ _ (hs.tm t)
  · cases hb : (fnd lp id).isSome
    · cases hg : (fnd gp id).isSome
      · have he' : lkE s.σ id = some e := by rw [← e2 id hb hg]; exact he
        refine (hs.ent id e he').step gr1 m hS hM1 (fun cs hc => ⟨(k2 id hb).1, ?_⟩) (fun e1 n len cs hc => ⟨(k2 id hb).2, ?_⟩)
        · rintro ⟨id', h'⟩
          have h1 : blkOf g s.σ id = some (g.blk id) := by unfold blkOf; rw [he', hc]
          have := hs.sep id id' _ h1 (b3' id' _ h').2
          subst this
          rw [(b3' id _ h').1] at hb; cases hb
        · rintro b hob ⟨id', h'⟩
          have h1 : blkOf g s.σ id = some b := by unfold blkOf; rw [he', hc]; exact hob
          have := hs.sep id id' _ h1 (b3' id' _ h').2
          subst this
          rw [(b3' id _ h').1] at hb; cases hb
      · have := eD id hb hg
        simp only at he
        rw [this] at he; cases he; trivial
    · have he' : lkE lw id = some e := by rw [← e1 id hb]; exact he
      exact (hh.ent id e he').step (S := fun _ => False) gr2 (Mut.refl _ w') (fun _ _ e => e.elim) hM2 (fun cs hc => ⟨(k1 id hb).1, fun h => h⟩) (fun e1 n len cs hc => ⟨(k1 id hb).2, fun _ _ h => h⟩)
  · cases hb : (fnd lp id).isSome <;> cases hb' : (fnd lp id').isSome
    · exact hs.sep id id' b (b2 id b hb q1).2 (b2 id' b hb' q2).2
    · rw [b1 id' hb'] at q2
      obtain ⟨q3, q4⟩ := b2 id b hb q1
      exact absurd (.inr ⟨id, hb, q3, q4⟩) (hh.new id' b q2).2
    · rw [b1 id hb] at q1
      obtain ⟨q3, q4⟩ := b2 id' b hb' q2
      exact absurd (.inr ⟨id', hb', q3, q4⟩) (hh.new id b q1).2
    · rw [b1 id hb] at q1; rw [b1 id' hb'] at q2; exact hh.sep id id' b q1 q2
  · cases hb : (fnd lp id).isSome
    · have := hs.new id b (b2 id b hb q).2
      exact ⟨Nat.lt_of_lt_of_le this.1 m.size, this.2⟩
    · rw [b1 id hb] at q
      have := hh.new id b q
      refine ⟨this.1, fun hlt => ?_, fun hm => this.2 (.inl hm)⟩
      obtain ⟨id', h'⟩ := hnw id b q (Nat.lt_of_lt_of_le hlt hs.chg.size)
      exact (hs.new id' b (b3' id' b h').2).2.1 hlt
  · cases hb : (fnd lp id).isSome
    · cases hg : (fnd gp id).isSome
      · simp only at h2; rw [e2 id hb hg] at h2; exact absurd h1 h2
      · obtain ⟨_, _, _, _, q⟩ := eg id hg
        rw [q] at h1; cases h1
    · rw [e3 id hb] at h1
      exact new_at hnew hb h1

theorem old_at {id : Nat} {x : Ent} : ∀ {u : Sg}, (u.all fun p => p.2.isNone || !newId N p.1) = true → lkE u id = some x → newId N id = false
  | [], _, h => by simp [lkE] at h
  | (k, y) :: r, ha, h => by
    simp only [List.all_cons, Bool.and_eq_true] at ha
    rw [lkE_cons] at h
    by_cases hb : k = id
    · rw [if_pos hb] at h
      subst hb; subst h
      simpa using ha.1
    · rw [if_neg hb] at h; exact old_at ha.2 h
theorem run_callC {dst : Option Tmp} {ty : TypeId} {pos : String} {af : Array Edge} {gd : Option (Nat × Bool)} {k : FuncId} {x : Operand} {as : List Operand} {ts : Array TypeId} {ρ : Operand → Value} {fs us : List Value} (he : Enters P k) (hx : ρ x = .func (.func k) fs.toArray us.toArray) (w : World) :
    (execOp ρ ⟨dst, .call { callee := .value x, args := as.toArray, argTypes := ts }, ty, pos, af, gd⟩).run P w = .ok (.enter k (fs ++ as.map ρ ++ us).toArray) w := by
  simp only [execOp, resolve, hx, Deferred.ofValue, Sem.run_bind, Sem.run_pure, Result.andThen_ok, invoke, List.map_toArray]
  have := he ((fs ++ as.map ρ ++ us).toArray) w
  simpa using this
/-- A call of a known function that is lent memory and given rows. -/
theorem T.lend {dst : Option Tmp} {ty : TypeId} {pos : String} {af : Array Edge} {gd : Option (Nat × Bool)} {k : FuncId} {as : List Operand} {ts : Array TypeId} {ds ds' : List D} {d : D} {lp lw : Sg} (gp : Sg) (he : Enters P k) (hf : DLend P k ds lp lw d) (hl : as.length = ds'.length) (hp : VgL lp gp ds' ds) (hkeys : keys lp = keys lw) (hnew : (lp.all fun p => p.2.isSome || newId N p.1) = true) (hrows : (gp.all fun p => isRowE p.2) = true) (hdis : ∀ id, (fnd lp id).isSome = true → (fnd gp id).isSome = false) (hE : EsG lp gp lp) :
    Tri P N ⟨dst, .call { callee := .value (.func k), args := as.toArray, argTypes := ts }, ty, pos, af, gd⟩ (as.zip ds') (lp ++ gp) d (lw ++ deads gp) := Tri.lend hf hkeys hnew hrows hdis hE fun w0 M0 B0 g s a w hs h2 hv => by
  refine ⟨as.map a.eval, run_callS he a.eval rfl w, ?_⟩
  have h1 := vals_repL hv
  rw [show (as.zip ds').map (·.2) = ds' from by rw [List.map_snd_zip (by omega)], show ((as.zip ds').map fun p => a.eval p.1) = as.map a.eval from by rw [show (fun p : Operand × D => a.eval p.1) = a.eval ∘ Prod.fst from rfl, ← List.map_map, List.map_fst_zip (by omega)]] at h1
  exact VgL.rep hs h2 hp h1
/-- The same for a function value. -/
theorem T.lendC {dst : Option Tmp} {ty : TypeId} {pos : String} {af : Array Edge} {gd : Option (Nat × Bool)} {k : FuncId} {x : Operand} {as : List Operand} {ts : Array TypeId} {first cap ds ds' : List D} {d : D} {lp lw : Sg} (gp : Sg) (he : Enters P k) (hf : DLend P k ds lp lw d) (hl : as.length = ds'.length) (hp : VgL lp gp (first ++ ds' ++ cap) ds) (hkeys : keys lp = keys lw) (hnew : (lp.all fun p => p.2.isSome || newId N p.1) = true) (hrows : (gp.all fun p => isRowE p.2) = true) (hdis : ∀ id, (fnd lp id).isSome = true → (fnd gp id).isSome = false) (hE : EsG lp gp lp) :
    Tri P N ⟨dst, .call { callee := .value x, args := as.toArray, argTypes := ts }, ty, pos, af, gd⟩ ((x, .clo (.func k) first cap) :: as.zip ds') (lp ++ gp) d (lw ++ deads gp) := Tri.lend hf hkeys hnew hrows hdis hE fun w0 M0 B0 g s a w hs h2 hv => by
  have h0 := hv.1
  simp only [Rep] at h0
  obtain ⟨fs, us, hx, hf1, hc1⟩ := h0
  refine ⟨fs ++ as.map a.eval ++ us, run_callC he hx w, ?_⟩
  have h1 := vals_repL hv.2
  rw [show (as.zip ds').map (·.2) = ds' from by rw [List.map_snd_zip (by omega)], show ((as.zip ds').map fun p => a.eval p.1) = as.map a.eval from by rw [show (fun p : Operand × D => a.eval p.1) = a.eval ∘ Prod.fst from rfl, ← List.map_map, List.map_fst_zip (by omega)]] at h1
  exact VgL.rep hs h2 hp (RepL.append (RepL.append hf1 h1) hc1)

/-! the call's own side -/
def GrowK (we : Sg) : Sg → Prop
  | [] => True
  | (id, e) :: r => (match e with
      | none => True
      | some .dead => lkE we id = some .dead
      | some (.box _) => ∃ cs', lkE we id = some (.box cs')
      | some (.row _ _ len _) => ∃ e' n' len' cs', lkE we id = some (.row e' n' len' cs') ∧ len ≤ len') ∧ GrowK we r
theorem GrowK.deadAt {we : Sg} : ∀ {τ : Sg}, GrowK we τ → ∀ id, lkE τ id = some .dead → lkE we id = some .dead
  | [], _, id, h => by simp [lkE] at h
  | (k, x) :: r, h, id, hx => by
    rw [lkE_cons] at hx
    by_cases e : k = id
    · rw [if_pos e] at hx
      have h1 := h.1
      subst e; subst hx; exact h1
    · rw [if_neg e] at hx; exact GrowK.deadAt h.2 id hx
theorem GrowK.at : ∀ {τ : Sg}, GrowK we τ → ∀ id, (∀ cs, lkE τ id = some (.box cs) → ∃ cs', lkE we id = some (.box cs')) ∧ (∀ e n len cs, lkE τ id = some (.row e n len cs) → ∃ e' n' len' cs', lkE we id = some (.row e' n' len' cs') ∧ len ≤ len')
  | [], _, id => ⟨fun cs h => by simp [lkE] at h, fun e n L cs h => by simp [lkE] at h⟩
  | (k, x) :: r, h, id => by
    rw [lkE_cons]
    by_cases e : k = id
    · rw [if_pos e]
      have h1 := h.1
      subst e
      refine ⟨fun cs hc => ?_, fun e n L cs hc => ?_⟩
      · subst hc; exact h1
      · subst hc; exact h1
    · rw [if_neg e]; exact GrowK.at h.2 id
/-- What a call's last state gives: the lent part, and a result. -/
def ResL (P : Program) (fn : Func) (N : Nat) (s : DS) (we : Sg) (d : D) : Prop :=
  ∃ f', EsOk s.σ we we ∧ FsOk s.σ we s.f f' ∧ ∀ (w0 : World) (M0 : Nat → Prop) (B0 : Bd) (g : Gh) (a : Act) (w : World), StG w0 M0 B0 N g ⟨f', we⟩ a w → ∃ v, (results fn a.tmps).run P w = .ok v w ∧ Rep (Mx M0 g we) w (some (g, we)) d v
def lendBd (g : Gh) (pe : Sg) : Bd := ⟨fun b => ∃ id, blkOf g pe id = some b, fun id b => b = g.blk id, fun id len v => ∃ e n len0 cs, lkE pe id = some (.row e n len0 cs) ∧ len0 ≤ len ∧ (len = len0 → v = g.row id), fun id len v len' v' ⟨e, n, len0, cs, q1, q2, q3⟩ hlt => ⟨e, n, len0, cs, q1, by omega, fun q => by omega⟩⟩
theorem DLend.enter {k : FuncId} {fn : Func} {c : Code} {args : List D} {d : D} (hf : P.funcs[k]? = some fn) (hb : fn.body = some c) (hn : fn.ntmps = N) (hN : args.length ≤ N) (hold : (pe.all fun p => p.2.isNone || !newId N p.1) = true) (hgk : GrowK we pe)
    (h : DW P N c ⟨argF 0 args, pe⟩ (fun e s => (e = .normal ∨ e = .ret) ∧ ResL P fn N s we d)) : DLend P k args pe we d := by
  subst hn
  intro M0 g w vals hM hh hv
  have hl := hv.length
  refine calls_of_wp hf hb ?_
  have hst : StG w M0 (lendBd g pe) fn.ntmps g ⟨argF 0 args, pe⟩ { tmps := vals.toArray ++ Array.replicate (fn.ntmps - vals.toArray.size) undef, defers := [] } w := by
    refine ⟨Mut.refl _ w, hM, rfl, by simp; omega, fun t => ?_, hh.ent, hh.sep, fun id b q => ⟨(hh.new id b q).1, fun _ => ⟨id, q⟩, (hh.new id b q).2⟩, fun id => ⟨fun cs q => .inr rfl, fun e n len cs q => .inr ⟨e, n, len, cs, q, Nat.le_refl _, fun _ => rfl⟩⟩⟩
    rw [argF_at]
    simp only [Nat.not_lt_zero, if_false, Nat.sub_zero]
    cases hd : args[t]? with
    | none => simp only [Option.getD_none, Rep]
    | some d =>
      obtain ⟨u, hu, hr⟩ := hv.get t hd
      have ht := (List.getElem?_eq_some_iff.1 hu).1
      have : (vals.toArray ++ Array.replicate (fn.ntmps - vals.toArray.size) undef).getD t undef = u := by
        rw [Array.getD_eq_getD_getElem?, Array.getElem?_append_left (by simpa using ht)]
        simp [hu]
      rw [this]
      exact hr
  have old : ∀ id x, lkE pe id = some x → newId fn.ntmps id = false := fun id x hx => old_at hold hx
  refine wp_mono (h.go w M0 (lendBd g pe) _ w ⟨_, hst⟩) fun e a' w' ⟨s', ⟨q1, ⟨f', r1, r2, r3⟩⟩, ⟨g', q3⟩⟩ => ?_
  have hM' : ∀ id b, blkOf g' we id = some b → blkOf g' s'.σ id = some b := fun id b hb => by
    unfold blkOf at hb
    obtain ⟨u1, u2⟩ := r1.at id
    cases he : lkE we id with
    | none => rw [he] at hb; cases hb
    | some e =>
      rw [he] at hb
      cases e with
      | box cs' => obtain ⟨cs, q, _⟩ := u1 cs' he; unfold blkOf; rw [q]; exact hb
      | row e n L cs' => obtain ⟨cs, q, _⟩ := u2 e n L cs' he; unfold blkOf; rw [q]; exact hb
      | dead => cases hb
  have hfin : StG w M0 (lendBd g pe) fn.ntmps g' ⟨f', we⟩ a' w' := by
    refine ⟨q3.chg, q3.m0, q3.df, q3.sz, fun t => r2.at t _ _ _ _ _ _ _ _ q3 hM' _ (q3.tm t), fun id e he => ?_, fun id id' b u1 u2 => q3.sep id id' b (hM' _ _ u1) (hM' _ _ u2), fun id b q => q3.new id b (hM' _ _ q), fun id => ⟨fun cs q => (by obtain ⟨c, u3, _⟩ := (r1.at id).1 cs q; exact (q3.anc id).1 c u3), fun e n len cs q => (by obtain ⟨c, u3, _⟩ := (r1.at id).2 e n len cs q; exact (q3.anc id).2 _ _ _ _ u3)⟩⟩
    obtain ⟨u1, u2⟩ := r1.at id
    cases e with
    | box cs' =>
      obtain ⟨cs, q, hv⟩ := u1 cs' he
      obtain ⟨vs, T, o1, o2⟩ := q3.ent id _ q
      exact ⟨vs, T, o1, VsL.rep q3 hM' hv o2⟩
    | row e n L cs' =>
      obtain ⟨cs, q, hv⟩ := u2 e n L cs' he
      obtain ⟨vs, o1, o2⟩ := q3.ent id _ q
      exact ⟨vs, o1, VsL.rep q3 hM' hv o2⟩
    | dead => trivial
  obtain ⟨v, v1, v2⟩ := r3 _ _ _ _ _ _ hfin
  have hgr : Grow (g, pe) (g', we) := by
    refine ⟨fun id cs hc => ?_, fun id e n len cs hc => ?_, fun id hc => hgk.deadAt id hc⟩
    · obtain ⟨cs', u1⟩ := (hgk.at id).1 cs hc
      refine ⟨⟨cs', u1⟩, ?_⟩
      rcases (hfin.anc id).1 cs' u1 with u2 | u2
      · rw [old id _ hc] at u2; cases u2
      · exact u2
    · obtain ⟨e', n', len', cs', u1, u2⟩ := (hgk.at id).2 e n len cs hc
      refine .inr ⟨e', n', len', cs', u1, u2, fun ul => ?_⟩
      rcases (hfin.anc id).2 e' n' len' cs' u1 with u3 | ⟨e0, n0, len0, cs0, u3, u4, u5⟩
      · rw [old id _ hc] at u3; cases u3
      · have hc : lkE pe id = some (.row e n len cs) := hc
        rw [hc] at u3
        cases u3
        exact u5 ul
  have hpost : LendPost M0 w g pe we d (.returned v) w' := ⟨v, g', rfl, hfin.chg, hgr, ⟨hfin.ent, hfin.sep, fun id b q => ⟨(hfin.new id b q).1, (hfin.new id b q).2.2⟩⟩, fun id b q hlt => (hfin.new id b q).2.1 hlt, v2⟩
  rcases q1 with rfl | rfl
  · exact ⟨q3.df, v, v1, hpost⟩
  · exact ⟨q3.df, v, v1, hpost⟩
theorem ResL.unit {fn : Func} {s : DS} {f' : Fr} (hr : fn.results = #[]) (h1 : EsOk s.σ we we) (h2 : FsOk s.σ we s.f f') : ResL P fn N s we (.tup []) :=
  ⟨f', h1, h2, fun w0 M0 B0 g a w hs => ⟨.tuple #[], by simp [results, hr], by simp only [Rep]; exact ⟨[], rfl, by simp only [RepL]⟩⟩⟩
theorem ResL.one {fn : Func} {s : DS} {f' : Fr} {t : Tmp} {d : D} (hr : fn.results = #[.tmp t]) (h1 : EsOk s.σ we we) (h2 : FsOk s.σ we s.f f') (hd : lkF f' t = d) : ResL P fn N s we d :=
  ⟨f', h1, h2, fun w0 M0 B0 g a w hs => ⟨a.tmps.getD t undef, by simp [results, hr], by have := hs.tm t; rw [hd] at this; exact this⟩⟩
end
end Go.Dm
/- A machine over data: rows of the call's own appended to one another. No condition. -/
set_option linter.unusedSimpArgs false
set_option linter.unusedVariables false
set_option maxHeartbeats 400000
namespace Go.Dm
open Go Go.RowKit Go.PP

section
variable {P : Program} {N : Nat} {dst : Option Tmp} {ty : TypeId} {pos : String} {af : Array Edge} {gd : Option (Nat × Bool)}
theorem T.appendOO {id id2 e n L m bytes : Nat} {z : Value} {cs ds : List D} (t : TypeId) (x y : Operand) (ht : P.underlying t = some (.slice e)) (hinfo : (P.info? e).map (fun i => (i.zero, i.size, i.bytes)) = some (some z, n, bytes)) (hzs : z.cells.size = n) (hsz : 0 < n) (hbp : 0 < bytes)
    (ho : oneL ds = true) (hby : (L + m) * bytes ≤ 140737488355328) :
    Tri P N ⟨dst, .call { callee := .builtin .append, args := #[x, y], argTypes := #[t, t] }, ty, pos, af, gd⟩ [(x, .own id L), (y, .own id2 m)] [(id, some (.row e n L cs)), (id2, some (.row e n m ds))] (.own id (L + m)) [(id, some (.row e n (L + m) (cs ++ ds)))] := by
  refine ⟨?_⟩
  intro w0 M0 B0 s a w next Q h1 h2 hd ⟨g, hs⟩ hk
  have he := h2.1
  have hvx := hs.eval x
  have hvy := hs.eval y
  rw [show evalD s.f x = .own id L from h1.1] at hvx
  rw [show evalD s.f y = .own id2 m from h1.2.1] at hvy
  obtain ⟨hu, vs, o1, o2⟩ := own_row hs he hvx
  obtain ⟨hu2, news, n0, n1⟩ := own_row hs h2.2.1 hvy
  obtain ⟨ad, c, r1, r4, n2, n3⟩ : ∃ ad c, a.eval y = .slice ad m c ∧ ds.length = m * n ∧ (ad = none → m = 0) ∧ ∀ a, ad = some a → ∀ j u, news[j]? = some u → w.cell? (a.add j) = some u := by
    have hl := n0.1
    rcases own_cells n0 with ⟨q1, q2⟩ | ⟨b, cap, q1, q2, q3, q4⟩
    · subst q2
      exact ⟨none, 0, q1, by rw [n1.length, hl], fun _ => rfl, fun a h => by cases h⟩
    · exact ⟨_, cap, q1, by rw [n1.length, hl], fun h => (by cases h), fun a ha j u hj => by cases ha; rw [add_off, Nat.zero_add]; exact q4 j u hj⟩
  obtain ⟨v', w', hr, p2, p3, p4, p5⟩ := run_appendN (P := P) t ty e ht hinfo hzs hsz _ L vs o1 ad m c news (by rw [← n1.length]; exact r4) n2 n3 (RepL.one ho n1) hby hbp
  have hex : (execOp a.eval ⟨dst, .call { callee := .builtin .append, args := #[x, y], argTypes := #[t, t] }, ty, pos, af, gd⟩).run P w = .ok (.value v') w' := by
    simp only [execOp, resolve, invoke, builtin, Sem.run_bind, Sem.run_pure, Result.andThen_ok, List.map_toArray, List.map_cons, List.map_nil, r1, hr]
  unfold Oper.wp
  rw [hex]
  have hm : Mut (fun b => (g.row id).ownBlock = some b) w w' := by
    have := (Mut.refl (fun b => (g.row id).ownBlock = some b) w).grown p3 (fun k hk _ => by rw [← hu]; exact hk)
    exact this
  have hgr : Grow (g, s.σ) (⟨g.blk, fun k => if k = id then v' else g.row k⟩, (id, some (.row e n (L + m) (cs ++ ds))) :: s.σ) := ⟨fun k cs hk => by
      have hne : ¬ id = k := fun e1 => by subst e1; simp only at hk; rw [he] at hk; cases hk
      exact ⟨⟨cs, by rw [lkE_cons, if_neg hne]; exact hk⟩, rfl⟩, fun k e1 n1' l1 c1 hk => by
      by_cases e2 : id = k
      · subst e2
        simp only at hk
        rw [he] at hk; cases hk
        exact .inr ⟨e, n, L + m, _, by rw [lkE_cons, if_pos rfl], by omega, fun e3 => by simp; rw [p5 (by omega)]; exact hu⟩
      · exact .inr ⟨e1, n1', l1, c1, by rw [lkE_cons, if_neg e2]; exact hk, Nat.le_refl _, fun _ => by simp [show ¬ k = id from fun e => e2 e.symm]⟩, fun k hk => by
      have hne : ¬ id = k := fun e1 => by subst e1; simp only at hk; rw [he] at hk; cases hk
      simp only at hk ⊢
      rw [lkE_cons, if_neg hne]; exact hk⟩
  have hS : ∀ b, b < w.heap.size → (g.row id).ownBlock = some b → Mx M0 g s.σ b := fun b _ hb => .inr ⟨id, by unfold blkOf; rw [he]; exact hb⟩
  obtain ⟨a5, c5, hv5⟩ : ∃ a c, v' = .slice a (L + m) c := by
    rcases p2.2 with ⟨h, h0⟩ | ⟨g1, cap, cur, h, _⟩
    · exact ⟨none, 0, by rw [h, h0]⟩
    · exact ⟨_, _, h⟩
  refine hk _ _ ⟨_, hs.row (v' := v') (vs' := vs ++ news) (L' := L + m) (cs' := cs ++ ds) he hm (by omega) (fun e => by rw [p5 (by omega)]; exact hu) p2 (fun b hb hlt => ?_) (fun M hM => ?_) hd (fun M hM => ?_)⟩
  · rcases p4 b hb with h | h
    · rw [← hu]; exact h
    · omega
  · exact RepL.append (RepL.step (G := some _) (G' := some _) hgr hm hS hM cs vs o2) (RepL.step (G := some _) (G' := some _) hgr hm hS hM ds news n1)
  · simp only [Rep]
    exact ⟨_, _, rfl, .inr ⟨e, n, L + m, cs ++ ds, by rw [lkE_cons, if_pos rfl], Nat.le_refl _, fun _ => by simp⟩, a5, c5, hv5⟩
/-- A row of the call's own that is not empty is not nil. -/
theorem own_ne_nil {w0 : World} {M0 : Nat → Prop} {B0 : Bd} {g : Gh} {s : DS} {a : Act} {w : World} (hs : StG w0 M0 B0 N g s a w) {id e n L : Nat} {cs : List D} (he : lkE s.σ id = some (.row e n L cs)) {u : Value} (hu : Rep (Mx M0 g s.σ) w (some (g, s.σ)) (.own id L) u) (hl : 0 < L) : ∃ ad c, u = .slice (some ad) L c := by
  obtain ⟨_, vs, o1, _⟩ := own_row hs he hu
  rcases own_cells o1 with ⟨_, q2⟩ | ⟨b, cap, q1, _⟩
  · omega
  · exact ⟨_, _, q1⟩
theorem T.eqNilO {t e ty' id L e2 n : Nat} {cs : List D} (x : Operand) (ht : P.underlying t = some (.slice e)) (hl : 0 < L) :
    Tri P N ⟨dst, .binOp .eql t x (.const (.slice none 0 0)) ty', ty, pos, af, gd⟩ [(x, .own id L), (.const (.slice none 0 0), .flat (.slice none 0 0))] [(id, some (.row e2 n L cs))] (.flat (.bool false)) [] := Tri.read fun w0 M0 B0 g s a w hs he hv => by
  obtain ⟨ad, c, r1⟩ := own_ne_nil hs he.1 hv.1 hl
  exact ⟨_, w, run_eqNil w a.eval r1 hv.2.one ht ty', Mut.refl _ w, by simp only [Rep]; rfl⟩
theorem T.neqNilO {t e ty' id L e2 n : Nat} {cs : List D} (x : Operand) (ht : P.underlying t = some (.slice e)) (hl : 0 < L) :
    Tri P N ⟨dst, .binOp .neq t x (.const (.slice none 0 0)) ty', ty, pos, af, gd⟩ [(x, .own id L), (.const (.slice none 0 0), .flat (.slice none 0 0))] [(id, some (.row e2 n L cs))] (.flat (.bool true)) [] := Tri.read fun w0 M0 B0 g s a w hs he hv => by
  obtain ⟨ad, c, r1⟩ := own_ne_nil hs he.1 hv.1 hl
  exact ⟨_, w, run_neqNil w a.eval r1 hv.2.one ht ty', Mut.refl _ w, by simp only [Rep]; rfl⟩
/-- An empty row in a slot: nil or not. -/
theorem DW.flattenO {Q : Exit → DS → Prop} {c : Code} {f : Fr} {σ : Sg} (t : Nat) {id : Nat} (ht : lkF f t = .own id 0) (h : ∀ a cap, DW P N c ⟨(t, .flat (.slice a 0 cap)) :: f, σ⟩ Q) : DW P N c ⟨f, σ⟩ Q := by
  refine ⟨fun w0 M0 B0 a w ⟨g, hs⟩ => ?_⟩
  have h1 := hs.tm t
  rw [ht] at h1
  simp only [Rep] at h1
  obtain ⟨_, _, _, _, ad, cap, r1⟩ := h1
  exact (h ad cap).go w0 M0 B0 a w ⟨g, StG.setF hs t _ (by simp only [Rep]; exact r1)⟩
end
theorem RepC.le {M : Nat → Prop} {w : World} {b : Nat} (hM : ∀ b, M b → b < w.heap.size) : ∀ {cs cs' : List D} {off : Nat}, LeL cs cs' → RepC M w b off cs → RepC M w b off cs'
  | [], [], _, _, _ => by simp only [RepC]
  | d :: ds, e :: es, off, hl, h => by
    simp only [RepC] at h ⊢
    obtain ⟨⟨u, h1, h2⟩, h3⟩ := h
    exact ⟨⟨u, h1, hl.1 _ _ _ _ hM h2⟩, RepC.le hM hl.2 h3⟩
  | [], _ :: _, _, h, _ => h.elim
  | _ :: _, [], _, h, _ => h.elim
theorem LeL.length : ∀ {cs cs' : List D}, LeL cs cs' → cs.length = cs'.length
  | [], [], _ => rfl
  | _ :: _, _ :: _, h => by simp [LeL.length h.2]
  | [], _ :: _, h => h.elim
  | _ :: _, [], h => h.elim
theorem Le.slc {full : Bool} {n len : Nat} {cs cs' : List D} (h : LeL cs cs') : Le (.sl full n len cs) (.sl full n len cs') := fun M w G v hM h1 => by
  simp only [Rep] at h1 ⊢
  obtain ⟨a, cap, q1, q2, q3, q4, q5, q6⟩ := h1
  refine ⟨a, cap, q1, q2, q3, by rw [← h.length]; exact q4, q5, ?_⟩
  rcases q6 with q6 | ⟨b, off, r1, r2, r3⟩
  · exact .inl q6
  · exact .inr ⟨b, off, r1, r2, RepC.le hM h r3⟩
theorem LeL.append : ∀ {a b c d : List D}, LeL a b → LeL c d → LeL (a ++ c) (b ++ d)
  | [], [], _, _, _, h => h
  | _ :: _, _ :: _, _, _, h, h2 => ⟨h.1, LeL.append h.2 h2⟩
  | [], _ :: _, _, _, h, _ => h.elim
  | _ :: _, [], _, _, h, _ => h.elim
theorem leL_flat {α : Type} {f g : α → List D} (h : ∀ x, LeL (f x) (g x)) : ∀ l : List α, LeL (l.flatMap f) (l.flatMap g)
  | [] => trivial
  | x :: l => by rw [List.flatMap_cons, List.flatMap_cons]; exact (h x).append (leL_flat h l)
theorem persL_flat {α : Type} {f : α → List D} (h : ∀ x, persL (f x) = true) : ∀ l : List α, persL (l.flatMap f) = true
  | [] => rfl
  | x :: l => by rw [List.flatMap_cons]; exact persL_append (h x) (persL_flat h l)
theorem leL_map {α : Type} {f g : α → D} (h : ∀ x, Le (f x) (g x)) : ∀ l : List α, LeL (l.map f) (l.map g)
  | [] => trivial
  | x :: l => ⟨h x, leL_map h l⟩
end Go.Dm
/- A machine over data: rules that find their types by themselves, and the walker. No condition. -/
set_option linter.unusedSimpArgs false
set_option linter.unusedVariables false
set_option maxHeartbeats 400000
namespace Go.Dm
open Go Go.RowKit Go.PP

class TyI (P : Program) (t : TypeId) (b : outParam Bool) (n : outParam Nat) : Prop where
  ag : aggOf P t = some b
  sz : sizeOfT P t = some n
class TySl (P : Program) (t : TypeId) (e : outParam TypeId) : Prop where
  h : P.underlying t = some (.slice e)
class TyAr (P : Program) (t : TypeId) (len : outParam Nat) (e : outParam TypeId) : Prop where
  h : P.underlying t = some (.array len e)
class TyBo (P : Program) (t : TypeId) : Prop where
  h : P.underlying t = some .bool
class TyStr (P : Program) (t : TypeId) : Prop where
  h : P.underlying t = some .string
class TyInt (P : Program) (t : TypeId) (k : outParam IntKind) : Prop where
  h : P.underlying t = some (.int k)
class TyMap (P : Program) (t : TypeId) (k e : outParam TypeId) : Prop where
  h : P.underlying t = some (.map k e)
class TyZ (P : Program) (t : TypeId) (z : outParam Value) : Prop where
  h : zeroT P t = some z
class TyIn (P : Program) (t : TypeId) (z : outParam Value) (n bytes : outParam Nat) : Prop where
  h : (P.info? t).map (fun i => (i.zero, i.size, i.bytes)) = some (some z, n, bytes)
class TyFd (P : Program) (t i : Nat) (off n : outParam Nat) : Prop where
  h : FieldAt P t i off n
class TyPl (P : Program) (t : TypeId) (pl : outParam (List (Nat × Nat))) : Prop where
  h : ∃ fs : List Field, P.underlying t = some (.struct fs.toArray) ∧ placesD P fs = some pl
class EntC (P : Program) (k : FuncId) : Prop where
  h : Enters P k

/-- Marks in the context of a walk: the slice or box made into this slot is the call's own, under this number. -/
structure OwnAt (k : Nat) : Prop where
structure IdAt (k id : Nat) : Prop where
theorem OwnAt.of (k : Nat) : OwnAt k := ⟨⟩
theorem IdAt.of (k id : Nat) : IdAt k id := ⟨⟩

section
variable {P : Program} {N : Nat} {dst : Option Tmp} {ty : TypeId} {pos : String} {af : Array Edge} {gd : Option (Nat × Bool)}
theorem T.neqNilF {t e ty' : TypeId} {a : Option Addr} {l c : Nat} (x : Operand) (ht : P.underlying t = some (.slice e)) :
    Tri P N ⟨dst, .binOp .neq t x (.const (.slice none 0 0)) ty', ty, pos, af, gd⟩ [(x, .flat (.slice a l c)), (.const (.slice none 0 0), .flat (.slice none 0 0))] [] (.flat (.bool (!a.isNone))) [] := Tri.val fun M w G ρ hv =>
  ⟨_, run_neqNil w ρ hv.one hv.2.one ht ty', by simp only [Rep]⟩
theorem T.neqNilS {t e ty' : TypeId} {f : Bool} {n len : Nat} {cs : List D} (x : Operand) (ht : P.underlying t = some (.slice e)) (hl : 0 < len) (hn : 0 < n) :
    Tri P N ⟨dst, .binOp .neq t x (.const (.slice none 0 0)) ty', ty, pos, af, gd⟩ [(x, .sl f n len cs), (.const (.slice none 0 0), .flat (.slice none 0 0))] [] (.flat (.bool true)) [] := Tri.val fun M w G ρ hv => by
  have q1 := hv.1
  simp only [Rep] at q1
  obtain ⟨a, cap, r1, _, _, _, _, r6⟩ := q1
  rcases r6 with r6 | ⟨b, o, rfl, _⟩
  · have := Nat.mul_pos hl hn; omega
  · exact ⟨_, run_neqNil w ρ r1 hv.2.one ht ty', by simp only [Rep]; rfl⟩
theorem run_eqB {a b : Bool} {t : TypeId} (w : World) (ht : P.underlying t = some .bool) : (Op.equal t (.bool a) (.bool b)).run P w = .ok (a == b) w := run_equalIn_bool w _ t a b ht
theorem T.eqlB {a b : Bool} {t ty' : TypeId} (x y : Operand) (ht : P.underlying t = some .bool) : Tri P N ⟨dst, .binOp .eql t x y ty', ty, pos, af, gd⟩ [(x, .flat (.bool a)), (y, .flat (.bool b))] [] (.flat (.bool (a == b))) [] := Tri.val fun M w G ρ hv =>
  ⟨.bool (a == b), by simp [execOp, hv.one, hv.2.one, eqGuard, binOp, run_eqB (P := P) w ht], by simp only [Rep]⟩
theorem T.neqB {a b : Bool} {t ty' : TypeId} (x y : Operand) (ht : P.underlying t = some .bool) : Tri P N ⟨dst, .binOp .neq t x y ty', ty, pos, af, gd⟩ [(x, .flat (.bool a)), (y, .flat (.bool b))] [] (.flat (.bool (!(a == b)))) [] := Tri.val fun M w G ρ hv =>
  ⟨.bool (!(a == b)), by simp [execOp, hv.one, hv.2.one, eqGuard, binOp, run_eqB (P := P) w ht], by simp only [Rep]⟩

theorem T.buildS1P {pl : List (Nat × Nat)} {z : Value} {cs : List D} {i : Nat} {d : D} {t : TypeId} {x : Operand} (hp : ∃ fs : List Field, P.underlying t = some (.struct fs.toArray) ∧ placesD P fs = some pl) (hz : zeroT P t = some z)
    (h : fillD (fun i => pl[i]?) (flats z.cells) [(i, d)] = some cs) : Tri P N ⟨dst, .build t #[(i, x)], ty, pos, af, gd⟩ [(x, d)] [] (.agg cs) [] := by
  obtain ⟨fs, h1, h2⟩ := hp
  exact T.buildS t [(i, x, d)] h1 hz h2 h
theorem T.buildS2P {pl : List (Nat × Nat)} {z : Value} {cs : List D} {i j : Nat} {d e : D} {t : TypeId} {x y : Operand} (hp : ∃ fs : List Field, P.underlying t = some (.struct fs.toArray) ∧ placesD P fs = some pl) (hz : zeroT P t = some z)
    (h : fillD (fun i => pl[i]?) (flats z.cells) [(i, d), (j, e)] = some cs) : Tri P N ⟨dst, .build t #[(i, x), (j, y)], ty, pos, af, gd⟩ [(x, d), (y, e)] [] (.agg cs) [] := by
  obtain ⟨fs, h1, h2⟩ := hp
  exact T.buildS t [(i, x, d), (j, y, e)] h1 hz h2 h
theorem T.buildS3P {pl : List (Nat × Nat)} {z : Value} {cs : List D} {i j k : Nat} {d e f : D} {t : TypeId} {x y u : Operand} (hp : ∃ fs : List Field, P.underlying t = some (.struct fs.toArray) ∧ placesD P fs = some pl) (hz : zeroT P t = some z)
    (h : fillD (fun i => pl[i]?) (flats z.cells) [(i, d), (j, e), (k, f)] = some cs) : Tri P N ⟨dst, .build t #[(i, x), (j, y), (k, u)], ty, pos, af, gd⟩ [(x, d), (y, e), (u, f)] [] (.agg cs) [] := by
  obtain ⟨fs, h1, h2⟩ := hp
  exact T.buildS t [(i, x, d), (j, y, e), (k, u, f)] h1 hz h2 h
theorem T.buildS4P {pl : List (Nat × Nat)} {z : Value} {cs : List D} {i j k m : Nat} {d e f g : D} {t : TypeId} {x y u v : Operand} (hp : ∃ fs : List Field, P.underlying t = some (.struct fs.toArray) ∧ placesD P fs = some pl) (hz : zeroT P t = some z)
    (h : fillD (fun i => pl[i]?) (flats z.cells) [(i, d), (j, e), (k, f), (m, g)] = some cs) : Tri P N ⟨dst, .build t #[(i, x), (j, y), (k, u), (m, v)], ty, pos, af, gd⟩ [(x, d), (y, e), (u, f), (v, g)] [] (.agg cs) [] := by
  obtain ⟨fs, h1, h2⟩ := hp
  exact T.buildS t [(i, x, d), (j, y, e), (k, u, f), (m, v, g)] h1 hz h2 h
theorem T.buildS0P {pl : List (Nat × Nat)} {z : Value} {t : TypeId} (hp : ∃ fs : List Field, P.underlying t = some (.struct fs.toArray) ∧ placesD P fs = some pl) (hz : zeroT P t = some z) : Tri P N ⟨dst, .build t #[], ty, pos, af, gd⟩ [] [] (.agg (flats z.cells)) [] := by
  obtain ⟨fs, h1, h2⟩ := hp
  exact T.buildS0 t h1 hz h2
theorem T.allocD {k : Nat} {z : Value} {t : TypeId} (hz : zeroT P t = some z) (hid : newId N k = true := by first | exact rfl | decide +kernel) : Tri P N ⟨some k, .alloc t, ty, pos, af, gd⟩ [] [(k, none)] (.ref k 0) [(k, some (.box (flats z.cells)))] := T.alloc k t hz hid
theorem T.allocA {k id : Nat} {z : Value} {t : TypeId} (hm : IdAt k id) (hz : zeroT P t = some z) (hid : newId N id = true := by first | exact rfl | decide +kernel) : Tri P N ⟨some k, .alloc t, ty, pos, af, gd⟩ [] [(id, none)] (.ref id 0) [(id, some (.box (flats z.cells)))] := T.alloc id t hz hid
theorem T.boxD {k : Nat} {d : D} {ds : List D} {t : TypeId} {x : Operand} (hc : cellsD d = some ds) (hid : newId N k = true := by first | exact rfl | decide +kernel) : Tri P N ⟨some k, .box t x, ty, pos, af, gd⟩ [(x, d)] [(k, none)] (.ref k 0) [(k, some (.box ds))] := T.box k t x hc hid
theorem T.boxA {k id : Nat} {d : D} {ds : List D} {t : TypeId} {x : Operand} (hm : IdAt k id) (hc : cellsD d = some ds) (hid : newId N id = true := by first | exact rfl | decide +kernel) : Tri P N ⟨some k, .box t x, ty, pos, af, gd⟩ [(x, d)] [(id, none)] (.ref id 0) [(id, some (.box ds))] := T.box id t x hc hid
theorem T.makeSlD {k e n bytes : Nat} {z : Value} {kl kc : IntKind} {t : TypeId} {x y : Operand} (ht : P.underlying t = some (.slice e)) (hinfo : (P.info? e).map (fun i => (i.zero, i.size, i.bytes)) = some (some z, 1, bytes)) (hz1 : z.cells = #[z])
    (hb : bytes * n ≤ 281474976710656) (hn : n ≤ maxLen) (hid : newId N k = true := by first | exact rfl | decide +kernel) :
    Tri P N ⟨some k, .makeSlice t x y, ty, pos, af, gd⟩ [(x, .flat (.int kl n)), (y, .flat (.int kc n))] [(k, none)] (.own k n) [(k, some (.row e 1 n (List.replicate n (.flat z))))] := T.makeSl k t x y ht hinfo hz1 hb hn hid
theorem T.makeSlA {k id e n bytes : Nat} {z : Value} {kl kc : IntKind} {t : TypeId} {x y : Operand} (hm : IdAt k id) (ht : P.underlying t = some (.slice e)) (hinfo : (P.info? e).map (fun i => (i.zero, i.size, i.bytes)) = some (some z, 1, bytes)) (hz1 : z.cells = #[z])
    (hb : bytes * n ≤ 281474976710656) (hn : n ≤ maxLen) (hid : newId N id = true := by first | exact rfl | decide +kernel) :
    Tri P N ⟨some k, .makeSlice t x y, ty, pos, af, gd⟩ [(x, .flat (.int kl n)), (y, .flat (.int kc n))] [(id, none)] (.own id n) [(id, some (.row e 1 n (List.replicate n (.flat z))))] := T.makeSl id t x y ht hinfo hz1 hb hn hid
theorem T.buildOwnD0 {k n e : Nat} {z : Value} {t : TypeId} (hm : OwnAt k) (ht : P.underlying t = some (.slice e)) (hz : zeroT P e = some z) (hn : sizeOfT P e = some n) (hid : newId N k = true := by first | exact rfl | decide +kernel) :
    Tri P N ⟨some k, .buildSlice t 0 #[], ty, pos, af, gd⟩ [] [(k, none)] (.own k 0) [(k, some (.row e n 0 []))] := T.buildOwn0 k t ht hz hn hid
theorem T.buildOwnA0 {k id n e : Nat} {z : Value} {t : TypeId} (hm : IdAt k id) (ht : P.underlying t = some (.slice e)) (hz : zeroT P e = some z) (hn : sizeOfT P e = some n) (hid : newId N id = true := by first | exact rfl | assumption | decide +kernel) :
    Tri P N ⟨some k, .buildSlice t 0 #[], ty, pos, af, gd⟩ [] [(id, none)] (.own id 0) [(id, some (.row e n 0 []))] := T.buildOwn0 id t ht hz hn hid
theorem T.buildOwnA1 {k id n e : Nat} {z : Value} {cs : List D} {d : D} {t : TypeId} {x : Operand} (hm : IdAt k id) (ht : P.underlying t = some (.slice e)) (hz : zeroT P e = some z) (hn : sizeOfT P e = some n) (hd : cellsD d = some cs) (hl : cs.length = n) (hs : n ≤ 16777216) (hid : newId N id = true := by first | exact rfl | assumption | decide +kernel) :
    Tri P N ⟨some k, .buildSlice t 1 #[(0, x)], ty, pos, af, gd⟩ [(x, d)] [(id, none)] (.own id 1) [(id, some (.row e n 1 cs))] := T.buildOwn1 id t x ht hz hn hd hl hs hid
theorem T.buildOwnD1 {k n e : Nat} {z : Value} {cs : List D} {d : D} {t : TypeId} {x : Operand} (hm : OwnAt k) (ht : P.underlying t = some (.slice e)) (hz : zeroT P e = some z) (hn : sizeOfT P e = some n) (hd : cellsD d = some cs) (hl : cs.length = n) (hs : n ≤ 16777216) (hid : newId N k = true := by first | exact rfl | decide +kernel) :
    Tri P N ⟨some k, .buildSlice t 1 #[(0, x)], ty, pos, af, gd⟩ [(x, d)] [(k, none)] (.own k 1) [(k, some (.row e n 1 cs))] := T.buildOwn1 k t x ht hz hn hd hl hs hid
end

/-! the end of a region -/
def KR (Q : Exit → DS → Prop) : DS → List Sd → Prop := fun s' _ => Q .normal s'
def KD (l : List Oper) (Q : Exit → DS → Prop) : DS → List Sd → Prop := fun s' qs => rOk (masks .any l []) (qs.map Sd.fp) = true ∧ Q .normal s'
section
variable {P : Program} {N : Nat} {Q : Exit → DS → Prop} {s s' : DS}
theorem DW.regR {id : Nat} {l : List Oper} (h : DC P N l.toArray 0 l s [] (KR Q)) : DW P N (.region id l.toArray false) s Q := DW.regionC h
theorem DW.regD {id : Nat} {l : List Oper} (hm : P.follows .mixedOrders = true) (hlt : ((List.range l.length).all fun i => ((l[i]?).map fun o => o.after.all fun e => !Region.binds .any e || decide (e.on < i)).getD true) = true)
    (h : DC P N l.toArray 0 l s [] (KD l Q)) : DW P N (.region id l.toArray true) s Q := DW.drawnC hm hlt h
theorem DC.endR {i : Nat} {ops : Array Oper} {acc : List Sd} (h : Q .normal s') (hs : s = s' := by first | (dsimp only [evalD, lkF, lkE, updF, Nat.beq, Nat.reduceBEq, cond_true, cond_false, List.cons_append, List.nil_append, List.append_nil, argF, Nat.reduceAdd, Nat.reduceMul, spliceD, List.take, List.drop, List.length, flats, Value.cells, List.map, List.set]; done) | exact rfl | fail) : DC P N ops i [] s acc (KR Q) := by subst hs; exact DC.nil h
theorem DC.endD {i : Nat} {l : List Oper} {ops : Array Oper} {acc : List Sd} (h : Q .normal s') (hs : s = s' := by first | (dsimp only [evalD, lkF, lkE, updF, Nat.beq, Nat.reduceBEq, cond_true, cond_false, List.cons_append, List.nil_append, List.append_nil, argF, Nat.reduceAdd, Nat.reduceMul, spliceD, List.take, List.drop, List.length, flats, Value.cells, List.map, List.set]; done) | exact rfl | fail) (hr : rOk (masks .any l []) (acc.reverse.map Sd.fp) = true := by kernel_rfl) : DC P N ops i [] s acc (KD l Q) := by subst hs; exact DC.nil ⟨hr, h⟩

theorem DC.k_move {ops : Array Oper} {i : Nat} {dst : Option Tmp} {ty : TypeId} {pos : String} {af : Array Edge} {gd : Option (Nat × Bool)} {l : List Oper} {s : DS} {acc : List Sd} {K : DS → List Sd → Prop} {x : Operand} (h : DC P N ops i (⟨dst, .move x, ty, pos, af, gd⟩ :: l) s acc K) : DC P N ops i (⟨dst, .move x, ty, pos, af, gd⟩ :: l) s acc K := h
theorem DC.k_assign {ops : Array Oper} {i : Nat} {dst : Option Tmp} {ty : TypeId} {pos : String} {af : Array Edge} {gd : Option (Nat × Bool)} {l : List Oper} {s : DS} {acc : List Sd} {K : DS → List Sd → Prop} {x : Operand} (h : DC P N ops i (⟨dst, .assign x, ty, pos, af, gd⟩ :: l) s acc K) : DC P N ops i (⟨dst, .assign x, ty, pos, af, gd⟩ :: l) s acc K := h
theorem DC.k_load {ops : Array Oper} {i : Nat} {dst : Option Tmp} {ty : TypeId} {pos : String} {af : Array Edge} {gd : Option (Nat × Bool)} {l : List Oper} {s : DS} {acc : List Sd} {K : DS → List Sd → Prop} {t : TypeId} {x : Operand} (h : DC P N ops i (⟨dst, .load t x, ty, pos, af, gd⟩ :: l) s acc K) : DC P N ops i (⟨dst, .load t x, ty, pos, af, gd⟩ :: l) s acc K := h
theorem DC.k_store {ops : Array Oper} {i : Nat} {dst : Option Tmp} {ty : TypeId} {pos : String} {af : Array Edge} {gd : Option (Nat × Bool)} {l : List Oper} {s : DS} {acc : List Sd} {K : DS → List Sd → Prop} {t : TypeId} {x y : Operand} (h : DC P N ops i (⟨dst, .store t x y, ty, pos, af, gd⟩ :: l) s acc K) : DC P N ops i (⟨dst, .store t x y, ty, pos, af, gd⟩ :: l) s acc K := h
theorem DC.k_fieldAddr {ops : Array Oper} {i : Nat} {dst : Option Tmp} {ty : TypeId} {pos : String} {af : Array Edge} {gd : Option (Nat × Bool)} {l : List Oper} {s : DS} {acc : List Sd} {K : DS → List Sd → Prop} {t j : Nat} {x : Operand} (h : DC P N ops i (⟨dst, .fieldAddr t x j, ty, pos, af, gd⟩ :: l) s acc K) : DC P N ops i (⟨dst, .fieldAddr t x j, ty, pos, af, gd⟩ :: l) s acc K := h
theorem DC.k_field {ops : Array Oper} {i : Nat} {dst : Option Tmp} {ty : TypeId} {pos : String} {af : Array Edge} {gd : Option (Nat × Bool)} {l : List Oper} {s : DS} {acc : List Sd} {K : DS → List Sd → Prop} {t j : Nat} {x : Operand} (h : DC P N ops i (⟨dst, .field t x j, ty, pos, af, gd⟩ :: l) s acc K) : DC P N ops i (⟨dst, .field t x j, ty, pos, af, gd⟩ :: l) s acc K := h
theorem DC.k_indexAddr {ops : Array Oper} {i : Nat} {dst : Option Tmp} {ty : TypeId} {pos : String} {af : Array Edge} {gd : Option (Nat × Bool)} {l : List Oper} {s : DS} {acc : List Sd} {K : DS → List Sd → Prop} {t : TypeId} {x y : Operand} (h : DC P N ops i (⟨dst, .indexAddr t x y, ty, pos, af, gd⟩ :: l) s acc K) : DC P N ops i (⟨dst, .indexAddr t x y, ty, pos, af, gd⟩ :: l) s acc K := h
theorem DC.k_bin {ops : Array Oper} {i : Nat} {dst : Option Tmp} {ty : TypeId} {pos : String} {af : Array Edge} {gd : Option (Nat × Bool)} {l : List Oper} {s : DS} {acc : List Sd} {K : DS → List Sd → Prop} {b : BinOp} {t t2 : TypeId} {x y : Operand} (h : DC P N ops i (⟨dst, .binOp b t x y t2, ty, pos, af, gd⟩ :: l) s acc K) : DC P N ops i (⟨dst, .binOp b t x y t2, ty, pos, af, gd⟩ :: l) s acc K := h
theorem DC.k_un {ops : Array Oper} {i : Nat} {dst : Option Tmp} {ty : TypeId} {pos : String} {af : Array Edge} {gd : Option (Nat × Bool)} {l : List Oper} {s : DS} {acc : List Sd} {K : DS → List Sd → Prop} {b : UnOp} {t : TypeId} {x : Operand} (h : DC P N ops i (⟨dst, .unOp b t x, ty, pos, af, gd⟩ :: l) s acc K) : DC P N ops i (⟨dst, .unOp b t x, ty, pos, af, gd⟩ :: l) s acc K := h
theorem DC.k_extract {ops : Array Oper} {i : Nat} {dst : Option Tmp} {ty : TypeId} {pos : String} {af : Array Edge} {gd : Option (Nat × Bool)} {l : List Oper} {s : DS} {acc : List Sd} {K : DS → List Sd → Prop} {x : Operand} {j : Nat} (h : DC P N ops i (⟨dst, .extract x j, ty, pos, af, gd⟩ :: l) s acc K) : DC P N ops i (⟨dst, .extract x j, ty, pos, af, gd⟩ :: l) s acc K := h
theorem DC.k_pick {ops : Array Oper} {i : Nat} {dst : Option Tmp} {ty : TypeId} {pos : String} {af : Array Edge} {gd : Option (Nat × Bool)} {l : List Oper} {s : DS} {acc : List Sd} {K : DS → List Sd → Prop} {x y v : Operand} (h : DC P N ops i (⟨dst, .pick x y v, ty, pos, af, gd⟩ :: l) s acc K) : DC P N ops i (⟨dst, .pick x y v, ty, pos, af, gd⟩ :: l) s acc K := h
theorem DC.k_alloc {ops : Array Oper} {i : Nat} {dst : Option Tmp} {ty : TypeId} {pos : String} {af : Array Edge} {gd : Option (Nat × Bool)} {l : List Oper} {s : DS} {acc : List Sd} {K : DS → List Sd → Prop} {t : TypeId} (h : DC P N ops i (⟨dst, .alloc t, ty, pos, af, gd⟩ :: l) s acc K) : DC P N ops i (⟨dst, .alloc t, ty, pos, af, gd⟩ :: l) s acc K := h
theorem DC.k_box {ops : Array Oper} {i : Nat} {dst : Option Tmp} {ty : TypeId} {pos : String} {af : Array Edge} {gd : Option (Nat × Bool)} {l : List Oper} {s : DS} {acc : List Sd} {K : DS → List Sd → Prop} {t : TypeId} {x : Operand} (h : DC P N ops i (⟨dst, .box t x, ty, pos, af, gd⟩ :: l) s acc K) : DC P N ops i (⟨dst, .box t x, ty, pos, af, gd⟩ :: l) s acc K := h
theorem DC.k_build {ops : Array Oper} {i : Nat} {dst : Option Tmp} {ty : TypeId} {pos : String} {af : Array Edge} {gd : Option (Nat × Bool)} {l : List Oper} {s : DS} {acc : List Sd} {K : DS → List Sd → Prop} {t : TypeId} {ps : Array (Nat × Operand)} (h : DC P N ops i (⟨dst, .build t ps, ty, pos, af, gd⟩ :: l) s acc K) : DC P N ops i (⟨dst, .build t ps, ty, pos, af, gd⟩ :: l) s acc K := h
theorem DC.k_buildSlice {ops : Array Oper} {i : Nat} {dst : Option Tmp} {ty : TypeId} {pos : String} {af : Array Edge} {gd : Option (Nat × Bool)} {l : List Oper} {s : DS} {acc : List Sd} {K : DS → List Sd → Prop} {t j : Nat} {ps : Array (Nat × Operand)} (h : DC P N ops i (⟨dst, .buildSlice t j ps, ty, pos, af, gd⟩ :: l) s acc K) : DC P N ops i (⟨dst, .buildSlice t j ps, ty, pos, af, gd⟩ :: l) s acc K := h
theorem DC.k_makeSlice {ops : Array Oper} {i : Nat} {dst : Option Tmp} {ty : TypeId} {pos : String} {af : Array Edge} {gd : Option (Nat × Bool)} {l : List Oper} {s : DS} {acc : List Sd} {K : DS → List Sd → Prop} {t : TypeId} {x y : Operand} (h : DC P N ops i (⟨dst, .makeSlice t x y, ty, pos, af, gd⟩ :: l) s acc K) : DC P N ops i (⟨dst, .makeSlice t x y, ty, pos, af, gd⟩ :: l) s acc K := h
theorem DC.k_slice {ops : Array Oper} {i : Nat} {dst : Option Tmp} {ty : TypeId} {pos : String} {af : Array Edge} {gd : Option (Nat × Bool)} {l : List Oper} {s : DS} {acc : List Sd} {K : DS → List Sd → Prop} {t : TypeId} {x : Operand} {lo hi mx : Option Operand} (h : DC P N ops i (⟨dst, .slice t x lo hi mx, ty, pos, af, gd⟩ :: l) s acc K) : DC P N ops i (⟨dst, .slice t x lo hi mx, ty, pos, af, gd⟩ :: l) s acc K := h
theorem DC.k_makeFunc {ops : Array Oper} {i : Nat} {dst : Option Tmp} {ty : TypeId} {pos : String} {af : Array Edge} {gd : Option (Nat × Bool)} {l : List Oper} {s : DS} {acc : List Sd} {K : DS → List Sd → Prop} {fn : Fn} {fs cs : Array Operand} (h : DC P N ops i (⟨dst, .makeFunc fn fs cs, ty, pos, af, gd⟩ :: l) s acc K) : DC P N ops i (⟨dst, .makeFunc fn fs cs, ty, pos, af, gd⟩ :: l) s acc K := h
theorem DC.k_builtin {ops : Array Oper} {i : Nat} {dst : Option Tmp} {ty : TypeId} {pos : String} {af : Array Edge} {gd : Option (Nat × Bool)} {l : List Oper} {s : DS} {acc : List Sd} {K : DS → List Sd → Prop} {b : Builtin} {«as» : Array Operand} {ts : Array TypeId} (h : DC P N ops i (⟨dst, .call { callee := .builtin b, args := «as», argTypes := ts }, ty, pos, af, gd⟩ :: l) s acc K) : DC P N ops i (⟨dst, .call { callee := .builtin b, args := «as», argTypes := ts }, ty, pos, af, gd⟩ :: l) s acc K := h
theorem DC.k_callv {ops : Array Oper} {i : Nat} {dst : Option Tmp} {ty : TypeId} {pos : String} {af : Array Edge} {gd : Option (Nat × Bool)} {l : List Oper} {s : DS} {acc : List Sd} {K : DS → List Sd → Prop} {x : Operand} {«as» : Array Operand} {ts : Array TypeId} (h : DC P N ops i (⟨dst, .call { callee := .value x, args := «as», argTypes := ts }, ty, pos, af, gd⟩ :: l) s acc K) : DC P N ops i (⟨dst, .call { callee := .value x, args := «as», argTypes := ts }, ty, pos, af, gd⟩ :: l) s acc K := h
theorem DC.isOp {ops : Array Oper} {i : Nat} {o : Oper} {l : List Oper} {s : DS} {acc : List Sd} {K : DS → List Sd → Prop} (h : DC P N ops i (o :: l) s acc K) : DC P N ops i (o :: l) s acc K := h
/-- A wrapper that no assumption meets. -/
structure Hid (R : Prop) : Prop where
  out : R
theorem DC.t {ops : Array Oper} {i : Nat} {o : Oper} {l : List Oper} {s : DS} {acc : List Sd} {K : DS → List Sd → Prop} {pf gp : List (Operand × D)} {pe : List (Nat × Option Ent)} {d : D} {we : Sg} (ht : Tri P N o pf pe d we) (h1 : Evs s.f pf) (h2 : Ens s.σ pe)
    (hk : DC P N ops (i + 1) l ⟨updF s.f o.dst d, we ++ s.σ⟩ (⟨o.dst, gp ++ pf, pe, d, we⟩ :: acc) K) (hg : GuardOk ops o s.f gp := by first | exact .none rfl | exact .on rfl rfl rfl (by first | rfl | assumption | exact decide_eq_true (by first | assumption | omega) | exact decide_eq_false (by first | assumption | omega) | (simp only [*]; done) | fail) | fail) (hd : dstOk N o.dst = true := by rfl) : DC P N ops i (o :: l) s acc K := DC.tri ht h1 h2 hk hg hd
theorem DC.offG {ops : Array Oper} {i j : Nat} {t : Tmp} {b p : Bool} {o : Oper} {l : List Oper} {s : DS} {acc : List Sd} {K : DS → List Sd → Prop}
    (hk : DC P N ops (i + 1) l ⟨updF s.f o.dst (.flat undef), s.σ⟩ (⟨o.dst, [(.tmp t, .flat (.bool p))], [], .flat undef, []⟩ :: acc) K) (hg : o.guard = some (j, b) := by rfl) (hj : (ops[j]?).bind (·.dst) = some t := by rfl) (hv : lkF s.f t = .flat (.bool p) := by rfl) (hp : p = !b := by first | rfl | assumption | exact decide_eq_true (by first | assumption | omega) | exact decide_eq_false (by first | assumption | omega) | (simp only [*]; done) | fail) (htn : t < N := by decide) (hd : dstOk N o.dst = true := by rfl) : DC P N ops i (o :: l) s acc K := DC.offB hg hj hv hp htn hk hd
theorem DW.cT {p : Bool} {c : Operand} {x y : Code} (h : DW P N x s Q) (hc : evalD s.f c = .flat (.bool p) := by rfl) (hp : p = true := by first | rfl | assumption | exact decide_eq_true (by first | assumption | omega) | exact decide_eq_false (by first | assumption | omega) | (simp only [*]; done) | fail) : DW P N (.cond c x y) s Q := DW.condT' hc hp h
theorem DW.cF {p : Bool} {c : Operand} {x y : Code} (h : DW P N y s Q) (hc : evalD s.f c = .flat (.bool p) := by rfl) (hp : p = false := by first | rfl | assumption | exact decide_eq_true (by first | assumption | omega) | exact decide_eq_false (by first | assumption | omega) | (simp only [*]; done) | fail) : DW P N (.cond c x y) s Q := DW.condF' hc hp h

/-- **The walker**: as far as the rules reach; what is left is the goal. -/
theorem DW.walk {c : Code} {R : Prop} (k : R) (h : Hid R → DW P N c s Q := by
    intro hR
    (repeat (first
      | (refine DW.seq ?_)
      | (refine DW.block ?_)
      | (refine Thn.n ?_)
      | (refine Blk.n ?_)
      | (refine Blk.here ?_)
      | (refine Thn.e ?_)
      | (refine Blk.pass rfl ?_)
      | (refine Thn.r ?_)
      | (refine Blk.r ?_)
      | (refine DW.skip ?_)
      | (refine DW.label ?_)
      | (refine DW.regR ?_)
      | (refine DW.regD rfl (by kernel_rfl) ?_)
      | (refine DC.endR ?_)
      | (refine DC.endD ?_)
      | (refine DC.isOp ?_; first | (refine DC.off rfl rfl rfl rfl (by decide) ?_ rfl) | (refine DC.offG ?_) | (refine DC.k_move ?_; first | (refine DC.t (T.move _ _) ⟨rfl, trivial⟩ trivial ?_)) | (refine DC.k_assign ?_; first | (refine DC.t (T.assign _ _) ⟨rfl, trivial⟩ trivial ?_)) | (refine DC.k_load ?_; first | (refine DC.t (T.loadPtr _ _ TyI.ag TyI.sz (by first | rfl | assumption)) ⟨rfl, trivial⟩ trivial ?_) | (refine DC.t (T.loadRef _ _ TyI.ag TyI.sz (by first | rfl | assumption)) ⟨rfl, trivial⟩ ⟨rfl, trivial⟩ ?_) | (refine DC.t (T.loadElp _ _ TyI.ag TyI.sz (by first | rfl | assumption)) ⟨rfl, trivial⟩ ⟨rfl, trivial⟩ ?_)) | (refine DC.k_store ?_; first | (refine DC.t (T.storeRef _ _ _ TyI.sz rfl rfl (by first | rfl | simp [oneL, oneD, Value.oneCell']) (by first | decide | (simp; done) | omega | (simp; omega))) ⟨rfl, rfl, trivial⟩ ⟨rfl, trivial⟩ ?_) | (refine DC.t (T.storeElp _ _ _ TyI.sz rfl rfl (by first | rfl | simp [oneL, oneD, Value.oneCell']) (by first | decide | (simp; done) | omega | (simp; omega))) ⟨rfl, rfl, trivial⟩ ⟨rfl, trivial⟩ ?_)) | (refine DC.k_fieldAddr ?_; first | (refine DC.t (T.fieldPtr' _ _ _ TyFd.h (by decide)) ⟨rfl, trivial⟩ trivial ?_) | (refine DC.t (T.fieldRef' _ _ _ TyFd.h (by decide)) ⟨rfl, trivial⟩ trivial ?_)) | (refine DC.k_field ?_; first | (refine DC.t (T.field1 _ _ _ TyFd.h (by first | rfl | assumption)) ⟨rfl, trivial⟩ trivial ?_)) | (refine DC.k_indexAddr ?_; first | (refine DC.t (T.indexSl _ _ _ TySl.h TyI.sz (by omega) (by omega) (by decide)) ⟨rfl, rfl, trivial⟩ trivial ?_) | (refine DC.t (T.indexOwn _ _ _ TySl.h TyI.sz (by omega) (by omega)) ⟨rfl, rfl, trivial⟩ ⟨rfl, trivial⟩ ?_) | (refine DC.t (T.indexArr _ _ _ TyAr.h TyI.sz (by omega) (by omega)) ⟨rfl, rfl, trivial⟩ trivial ?_) | (refine DC.t (T.indexArrPtr _ _ _ TyAr.h TyI.sz (by omega) (by omega)) ⟨rfl, rfl, trivial⟩ trivial ?_)) | (refine DC.k_bin ?_; first | (refine DC.t (T.lss _ _ _ _) ⟨rfl, rfl, trivial⟩ trivial ?_) | (refine DC.t (T.leq _ _ _ _) ⟨rfl, rfl, trivial⟩ trivial ?_) | (refine DC.t (T.gtr _ _ _ _) ⟨rfl, rfl, trivial⟩ trivial ?_) | (refine DC.t (T.geq _ _ _ _) ⟨rfl, rfl, trivial⟩ trivial ?_) | (refine DC.t (T.eql _ _ _ _) ⟨rfl, rfl, trivial⟩ trivial ?_) | (refine DC.t (T.neq _ _ _ _) ⟨rfl, rfl, trivial⟩ trivial ?_) | (refine DC.t (T.add (k := .i64) _ _ _ _ (by first | exact w64 (by omega) (by omega) | assumption)) ⟨rfl, rfl, trivial⟩ trivial ?_) | (refine DC.t (T.sub (k := .i64) _ _ _ _ (by first | exact w64 (by omega) (by omega) | assumption)) ⟨rfl, rfl, trivial⟩ trivial ?_) | (refine DC.t (T.mul (k := .i64) _ _ _ _ (by first | exact w64 (by omega) (by omega) | assumption)) ⟨rfl, rfl, trivial⟩ trivial ?_) | (refine DC.t (T.quo (k := .i64) _ _ _ _ (by omega) (by first | exact quo64 (by omega) (by omega) (by omega) | assumption)) ⟨rfl, rfl, trivial⟩ trivial ?_) | (refine DC.t (T.rem (k := .i64) _ _ _ _ (by omega) (by first | exact rem64 (by omega) | assumption)) ⟨rfl, rfl, trivial⟩ trivial ?_) | (refine DC.t (T.eqNilS _ TySl.h (by omega) (by decide)) ⟨rfl, rfl, trivial⟩ trivial ?_) | (refine DC.t (T.eqNilF _ TySl.h) ⟨rfl, rfl, trivial⟩ trivial ?_) | (refine DC.t (T.eqNilO _ TySl.h (by omega)) ⟨rfl, rfl, trivial⟩ ⟨rfl, trivial⟩ ?_) | (refine DC.t (T.neqNilO _ TySl.h (by omega)) ⟨rfl, rfl, trivial⟩ ⟨rfl, trivial⟩ ?_) | (refine DC.t (T.neqNilS _ TySl.h (by omega) (by decide)) ⟨rfl, rfl, trivial⟩ trivial ?_) | (refine DC.t (T.neqNilF _ TySl.h) ⟨rfl, rfl, trivial⟩ trivial ?_) | (refine DC.t (T.eqlSame _ _ TyBo.h) ⟨rfl, rfl, trivial⟩ trivial ?_) | (refine DC.t (T.neqSame _ _ TyBo.h) ⟨rfl, rfl, trivial⟩ trivial ?_) | (refine DC.t (T.eqlB _ _ TyBo.h) ⟨rfl, rfl, trivial⟩ trivial ?_) | (refine DC.t (T.neqB _ _ TyBo.h) ⟨rfl, rfl, trivial⟩ trivial ?_)) | (refine DC.k_un ?_; first | (refine DC.t (T.not _ _) ⟨rfl, trivial⟩ trivial ?_)) | (refine DC.k_extract ?_; first | (refine DC.t (T.extract _ _ rfl) ⟨rfl, trivial⟩ trivial ?_)) | (refine DC.k_pick ?_; first | (refine DC.t (T.pickT' _ _ _ (by first | rfl | assumption | exact decide_eq_true (by first | assumption | omega) | exact decide_eq_false (by first | assumption | omega) | (simp only [*]; done) | fail)) ⟨rfl, rfl, trivial⟩ trivial ?_) | (refine DC.t (T.pickF' _ _ _ (by first | rfl | assumption | exact decide_eq_true (by first | assumption | omega) | exact decide_eq_false (by first | assumption | omega) | (simp only [*]; done) | fail)) ⟨rfl, rfl, trivial⟩ trivial ?_)) | (refine DC.k_alloc ?_; first | (refine DC.t (T.allocA (by assumption) TyZ.h) trivial (by exact ⟨rfl, trivial⟩) ?_) | (refine DC.t (T.allocD TyZ.h) trivial ⟨rfl, trivial⟩ ?_)) | (refine DC.k_box ?_; first | (refine DC.t (T.boxA (by assumption) rfl) ⟨rfl, trivial⟩ (by exact ⟨rfl, trivial⟩) ?_) | (refine DC.t (T.boxD rfl) ⟨rfl, trivial⟩ ⟨rfl, trivial⟩ ?_)) | (refine DC.k_build ?_; first | (refine DC.t (T.buildS1P TyPl.h TyZ.h rfl) ⟨rfl, trivial⟩ trivial ?_) | (refine DC.t (T.buildS2P TyPl.h TyZ.h rfl) ⟨rfl, rfl, trivial⟩ trivial ?_) | (refine DC.t (T.buildS3P TyPl.h TyZ.h rfl) ⟨rfl, rfl, rfl, trivial⟩ trivial ?_) | (refine DC.t (T.buildS4P TyPl.h TyZ.h rfl) ⟨rfl, rfl, rfl, rfl, trivial⟩ trivial ?_) | (refine DC.t (T.buildS0P TyPl.h TyZ.h) trivial trivial ?_) | (refine DC.t (T.buildA1 _ _ TyAr.h TyZ.h TyI.sz rfl) ⟨rfl, trivial⟩ trivial ?_) | (refine DC.t (T.buildA4 _ _ _ _ _ TyAr.h TyZ.h TyI.sz rfl) ⟨rfl, rfl, rfl, rfl, trivial⟩ trivial ?_)) | (refine DC.k_buildSlice ?_; first | (refine DC.t (T.buildOwnA0 (by assumption) TySl.h TyZ.h TyI.sz) trivial (by exact ⟨rfl, trivial⟩) ?_) | (refine DC.t (T.buildOwnA1 (by assumption) TySl.h TyZ.h TyI.sz rfl rfl (by decide)) ⟨rfl, trivial⟩ (by exact ⟨rfl, trivial⟩) ?_) | (refine DC.t (T.buildOwnD0 (by assumption) TySl.h TyZ.h TyI.sz) trivial (by exact ⟨rfl, trivial⟩) ?_) | (refine DC.t (T.buildOwnD1 (by assumption) TySl.h TyZ.h TyI.sz rfl rfl (by decide)) ⟨rfl, trivial⟩ (by exact ⟨rfl, trivial⟩) ?_) | (refine DC.t (T.buildSl1 _ _ TySl.h TyZ.h TyI.sz rfl rfl (by decide) rfl) ⟨rfl, trivial⟩ trivial ?_) | (refine DC.t (T.buildSl2 _ _ _ TySl.h TyZ.h TyI.sz rfl rfl rfl rfl (by decide) rfl) ⟨rfl, rfl, trivial⟩ trivial ?_) | (refine DC.t (T.buildSl0 _ TySl.h TyZ.h TyI.sz) trivial trivial ?_)) | (refine DC.k_makeSlice ?_; first | (refine DC.t (T.makeSlA (by assumption) TySl.h TyIn.h rfl (by omega) (by unfold maxLen; omega)) ⟨rfl, rfl, trivial⟩ (by exact ⟨rfl, trivial⟩) ?_) | (refine DC.t (T.makeSlD TySl.h TyIn.h rfl (by omega) (by unfold maxLen; omega)) ⟨rfl, rfl, trivial⟩ ⟨rfl, trivial⟩ ?_)) | (refine DC.k_slice ?_; first | (refine DC.t (T.cutH _ _ _ TySl.h TyI.sz (by omega)) ⟨rfl, rfl, trivial⟩ trivial ?_) | (refine DC.t (T.cutL _ _ _ TySl.h TyI.sz (by omega)) ⟨rfl, rfl, trivial⟩ trivial ?_)) | (refine DC.k_makeFunc ?_; first | (refine DC.t (T.makeFunc (fs := []) (cs := []) (fd := []) (cd := []) rfl rfl) trivial trivial ?_) | (refine DC.t (T.makeFunc (fs := []) (cs := [_]) (fd := []) (cd := [_]) rfl rfl) ⟨rfl, trivial⟩ trivial ?_) | (refine DC.t (T.makeFunc (fs := []) (cs := [_, _]) (fd := []) (cd := [_, _]) rfl rfl) ⟨rfl, rfl, trivial⟩ trivial ?_) | (refine DC.t (T.makeFunc (fs := []) (cs := [_, _, _]) (fd := []) (cd := [_, _, _]) rfl rfl) ⟨rfl, rfl, rfl, trivial⟩ trivial ?_) | (refine DC.t (T.makeFunc (fs := []) (cs := [_, _, _, _]) (fd := []) (cd := [_, _, _, _]) rfl rfl) ⟨rfl, rfl, rfl, rfl, trivial⟩ trivial ?_) | (refine DC.t (T.makeFunc (fs := []) (cs := [_, _, _, _, _]) (fd := []) (cd := [_, _, _, _, _]) rfl rfl) ⟨rfl, rfl, rfl, rfl, rfl, trivial⟩ trivial ?_) | (refine DC.t (T.makeFunc (fs := []) (cs := [_, _, _, _, _, _]) (fd := []) (cd := [_, _, _, _, _, _]) rfl rfl) ⟨rfl, rfl, rfl, rfl, rfl, rfl, trivial⟩ trivial ?_) | (refine DC.t (T.makeFunc (fs := [_]) (cs := []) (fd := [_]) (cd := []) rfl rfl) ⟨rfl, trivial⟩ trivial ?_) | (refine DC.t (T.makeFunc (fs := [_, _]) (cs := []) (fd := [_, _]) (cd := []) rfl rfl) ⟨rfl, rfl, trivial⟩ trivial ?_) | (refine DC.t (T.makeFunc (fs := [_, _, _]) (cs := []) (fd := [_, _, _]) (cd := []) rfl rfl) ⟨rfl, rfl, rfl, trivial⟩ trivial ?_)) | (refine DC.k_builtin ?_; first | (refine DC.t (T.lenSl _ _ TySl.h) ⟨rfl, trivial⟩ trivial ?_) | (refine DC.t (T.lenOwn _ _ TySl.h) ⟨rfl, trivial⟩ trivial ?_) | (refine DC.t (T.lenNil _ _ TySl.h) ⟨rfl, trivial⟩ trivial ?_) | (refine DC.t (T.minI _ _ _ (by first | assumption | rfl)) ⟨rfl, rfl, trivial⟩ trivial ?_) | (refine DC.t (T.append _ _ _ TySl.h TyIn.h rfl (by decide) (by decide) (by first | rfl | assumption | exact oneL_map (fun _ => rfl) _ | (simp [oneL, oneD, Value.oneCell']; done)) (by omega)) ⟨rfl, rfl, trivial⟩ ⟨rfl, trivial⟩ ?_) | (refine DC.t (T.appendOO _ _ _ TySl.h TyIn.h rfl (by decide) (by decide) (by first | rfl | assumption | exact oneL_map (fun _ => rfl) _ | (simp [oneL, oneD, Value.oneCell']; done)) (by omega)) ⟨rfl, rfl, trivial⟩ ⟨rfl, rfl, trivial⟩ ?_) | (refine DC.t (T.appendG _ _ _ TySl.h TyIn.h rfl (by decide) (by decide) Le.empty rfl (by omega)) ⟨rfl, rfl, trivial⟩ ⟨rfl, trivial⟩ ?_)) | (refine DC.k_callv ?_; first | (refine DC.t (T.call («as» := []) (ds' := []) EntC.h (by assumption) rfl rfl (LeL.refl _)) trivial trivial ?_) | (refine DC.t (T.call («as» := [_]) (ds' := [_]) EntC.h (by assumption) rfl rfl (LeL.refl _)) ⟨rfl, trivial⟩ trivial ?_) | (refine DC.t (T.call («as» := [_, _]) (ds' := [_, _]) EntC.h (by assumption) rfl rfl (LeL.refl _)) ⟨rfl, rfl, trivial⟩ trivial ?_) | (refine DC.t (T.call («as» := [_, _, _]) (ds' := [_, _, _]) EntC.h (by assumption) rfl rfl (LeL.refl _)) ⟨rfl, rfl, rfl, trivial⟩ trivial ?_) | (refine DC.t (T.call («as» := [_, _, _, _]) (ds' := [_, _, _, _]) EntC.h (by assumption) rfl rfl (LeL.refl _)) ⟨rfl, rfl, rfl, rfl, trivial⟩ trivial ?_) | (refine DC.t (T.call («as» := [_, _, _, _, _]) (ds' := [_, _, _, _, _]) EntC.h (by assumption) rfl rfl (LeL.refl _)) ⟨rfl, rfl, rfl, rfl, rfl, trivial⟩ trivial ?_) | (refine DC.t (T.call («as» := [_, _, _, _, _, _]) (ds' := [_, _, _, _, _, _]) EntC.h (by assumption) rfl rfl (LeL.refl _)) ⟨rfl, rfl, rfl, rfl, rfl, rfl, trivial⟩ trivial ?_)))
      | (refine DW.cT ?_)
      | (refine DW.cF ?_)
      | (refine DW.exit ?_)
      | (refine DW.ret ?_)
      | fail))
    exact hR.out) : DW P N c s Q := h ⟨k⟩
theorem DC.walk {ops : Array Oper} {i : Nat} {l : List Oper} {acc : List Sd} {K : DS → List Sd → Prop} {R : Prop} (k : R) (h : Hid R → DC P N ops i l s acc K := by
    intro hR
    (repeat (first
      | (refine DW.seq ?_)
      | (refine DW.block ?_)
      | (refine Thn.n ?_)
      | (refine Blk.n ?_)
      | (refine Blk.here ?_)
      | (refine Thn.e ?_)
      | (refine Blk.pass rfl ?_)
      | (refine Thn.r ?_)
      | (refine Blk.r ?_)
      | (refine DW.skip ?_)
      | (refine DW.label ?_)
      | (refine DW.regR ?_)
      | (refine DW.regD rfl (by kernel_rfl) ?_)
      | (refine DC.endR ?_)
      | (refine DC.endD ?_)
      | (refine DC.isOp ?_; first | (refine DC.off rfl rfl rfl rfl (by decide) ?_ rfl) | (refine DC.offG ?_) | (refine DC.k_move ?_; first | (refine DC.t (T.move _ _) ⟨rfl, trivial⟩ trivial ?_)) | (refine DC.k_assign ?_; first | (refine DC.t (T.assign _ _) ⟨rfl, trivial⟩ trivial ?_)) | (refine DC.k_load ?_; first | (refine DC.t (T.loadPtr _ _ TyI.ag TyI.sz (by first | rfl | assumption)) ⟨rfl, trivial⟩ trivial ?_) | (refine DC.t (T.loadRef _ _ TyI.ag TyI.sz (by first | rfl | assumption)) ⟨rfl, trivial⟩ ⟨rfl, trivial⟩ ?_) | (refine DC.t (T.loadElp _ _ TyI.ag TyI.sz (by first | rfl | assumption)) ⟨rfl, trivial⟩ ⟨rfl, trivial⟩ ?_)) | (refine DC.k_store ?_; first | (refine DC.t (T.storeRef _ _ _ TyI.sz rfl rfl (by first | rfl | simp [oneL, oneD, Value.oneCell']) (by first | decide | (simp; done) | omega | (simp; omega))) ⟨rfl, rfl, trivial⟩ ⟨rfl, trivial⟩ ?_) | (refine DC.t (T.storeElp _ _ _ TyI.sz rfl rfl (by first | rfl | simp [oneL, oneD, Value.oneCell']) (by first | decide | (simp; done) | omega | (simp; omega))) ⟨rfl, rfl, trivial⟩ ⟨rfl, trivial⟩ ?_)) | (refine DC.k_fieldAddr ?_; first | (refine DC.t (T.fieldPtr' _ _ _ TyFd.h (by decide)) ⟨rfl, trivial⟩ trivial ?_) | (refine DC.t (T.fieldRef' _ _ _ TyFd.h (by decide)) ⟨rfl, trivial⟩ trivial ?_)) | (refine DC.k_field ?_; first | (refine DC.t (T.field1 _ _ _ TyFd.h (by first | rfl | assumption)) ⟨rfl, trivial⟩ trivial ?_)) | (refine DC.k_indexAddr ?_; first | (refine DC.t (T.indexSl _ _ _ TySl.h TyI.sz (by omega) (by omega) (by decide)) ⟨rfl, rfl, trivial⟩ trivial ?_) | (refine DC.t (T.indexOwn _ _ _ TySl.h TyI.sz (by omega) (by omega)) ⟨rfl, rfl, trivial⟩ ⟨rfl, trivial⟩ ?_) | (refine DC.t (T.indexArr _ _ _ TyAr.h TyI.sz (by omega) (by omega)) ⟨rfl, rfl, trivial⟩ trivial ?_) | (refine DC.t (T.indexArrPtr _ _ _ TyAr.h TyI.sz (by omega) (by omega)) ⟨rfl, rfl, trivial⟩ trivial ?_)) | (refine DC.k_bin ?_; first | (refine DC.t (T.lss _ _ _ _) ⟨rfl, rfl, trivial⟩ trivial ?_) | (refine DC.t (T.leq _ _ _ _) ⟨rfl, rfl, trivial⟩ trivial ?_) | (refine DC.t (T.gtr _ _ _ _) ⟨rfl, rfl, trivial⟩ trivial ?_) | (refine DC.t (T.geq _ _ _ _) ⟨rfl, rfl, trivial⟩ trivial ?_) | (refine DC.t (T.eql _ _ _ _) ⟨rfl, rfl, trivial⟩ trivial ?_) | (refine DC.t (T.neq _ _ _ _) ⟨rfl, rfl, trivial⟩ trivial ?_) | (refine DC.t (T.add (k := .i64) _ _ _ _ (by first | exact w64 (by omega) (by omega) | assumption)) ⟨rfl, rfl, trivial⟩ trivial ?_) | (refine DC.t (T.sub (k := .i64) _ _ _ _ (by first | exact w64 (by omega) (by omega) | assumption)) ⟨rfl, rfl, trivial⟩ trivial ?_) | (refine DC.t (T.mul (k := .i64) _ _ _ _ (by first | exact w64 (by omega) (by omega) | assumption)) ⟨rfl, rfl, trivial⟩ trivial ?_) | (refine DC.t (T.quo (k := .i64) _ _ _ _ (by omega) (by first | exact quo64 (by omega) (by omega) (by omega) | assumption)) ⟨rfl, rfl, trivial⟩ trivial ?_) | (refine DC.t (T.rem (k := .i64) _ _ _ _ (by omega) (by first | exact rem64 (by omega) | assumption)) ⟨rfl, rfl, trivial⟩ trivial ?_) | (refine DC.t (T.eqNilS _ TySl.h (by omega) (by decide)) ⟨rfl, rfl, trivial⟩ trivial ?_) | (refine DC.t (T.eqNilF _ TySl.h) ⟨rfl, rfl, trivial⟩ trivial ?_) | (refine DC.t (T.eqNilO _ TySl.h (by omega)) ⟨rfl, rfl, trivial⟩ ⟨rfl, trivial⟩ ?_) | (refine DC.t (T.neqNilO _ TySl.h (by omega)) ⟨rfl, rfl, trivial⟩ ⟨rfl, trivial⟩ ?_) | (refine DC.t (T.neqNilS _ TySl.h (by omega) (by decide)) ⟨rfl, rfl, trivial⟩ trivial ?_) | (refine DC.t (T.neqNilF _ TySl.h) ⟨rfl, rfl, trivial⟩ trivial ?_) | (refine DC.t (T.eqlSame _ _ TyBo.h) ⟨rfl, rfl, trivial⟩ trivial ?_) | (refine DC.t (T.neqSame _ _ TyBo.h) ⟨rfl, rfl, trivial⟩ trivial ?_) | (refine DC.t (T.eqlB _ _ TyBo.h) ⟨rfl, rfl, trivial⟩ trivial ?_) | (refine DC.t (T.neqB _ _ TyBo.h) ⟨rfl, rfl, trivial⟩ trivial ?_)) | (refine DC.k_un ?_; first | (refine DC.t (T.not _ _) ⟨rfl, trivial⟩ trivial ?_)) | (refine DC.k_extract ?_; first | (refine DC.t (T.extract _ _ rfl) ⟨rfl, trivial⟩ trivial ?_)) | (refine DC.k_pick ?_; first | (refine DC.t (T.pickT' _ _ _ (by first | rfl | assumption | exact decide_eq_true (by first | assumption | omega) | exact decide_eq_false (by first | assumption | omega) | (simp only [*]; done) | fail)) ⟨rfl, rfl, trivial⟩ trivial ?_) | (refine DC.t (T.pickF' _ _ _ (by first | rfl | assumption | exact decide_eq_true (by first | assumption | omega) | exact decide_eq_false (by first | assumption | omega) | (simp only [*]; done) | fail)) ⟨rfl, rfl, trivial⟩ trivial ?_)) | (refine DC.k_alloc ?_; first | (refine DC.t (T.allocA (by assumption) TyZ.h) trivial (by exact ⟨rfl, trivial⟩) ?_) | (refine DC.t (T.allocD TyZ.h) trivial ⟨rfl, trivial⟩ ?_)) | (refine DC.k_box ?_; first | (refine DC.t (T.boxA (by assumption) rfl) ⟨rfl, trivial⟩ (by exact ⟨rfl, trivial⟩) ?_) | (refine DC.t (T.boxD rfl) ⟨rfl, trivial⟩ ⟨rfl, trivial⟩ ?_)) | (refine DC.k_build ?_; first | (refine DC.t (T.buildS1P TyPl.h TyZ.h rfl) ⟨rfl, trivial⟩ trivial ?_) | (refine DC.t (T.buildS2P TyPl.h TyZ.h rfl) ⟨rfl, rfl, trivial⟩ trivial ?_) | (refine DC.t (T.buildS3P TyPl.h TyZ.h rfl) ⟨rfl, rfl, rfl, trivial⟩ trivial ?_) | (refine DC.t (T.buildS4P TyPl.h TyZ.h rfl) ⟨rfl, rfl, rfl, rfl, trivial⟩ trivial ?_) | (refine DC.t (T.buildS0P TyPl.h TyZ.h) trivial trivial ?_) | (refine DC.t (T.buildA1 _ _ TyAr.h TyZ.h TyI.sz rfl) ⟨rfl, trivial⟩ trivial ?_) | (refine DC.t (T.buildA4 _ _ _ _ _ TyAr.h TyZ.h TyI.sz rfl) ⟨rfl, rfl, rfl, rfl, trivial⟩ trivial ?_)) | (refine DC.k_buildSlice ?_; first | (refine DC.t (T.buildOwnA0 (by assumption) TySl.h TyZ.h TyI.sz) trivial (by exact ⟨rfl, trivial⟩) ?_) | (refine DC.t (T.buildOwnA1 (by assumption) TySl.h TyZ.h TyI.sz rfl rfl (by decide)) ⟨rfl, trivial⟩ (by exact ⟨rfl, trivial⟩) ?_) | (refine DC.t (T.buildOwnD0 (by assumption) TySl.h TyZ.h TyI.sz) trivial (by exact ⟨rfl, trivial⟩) ?_) | (refine DC.t (T.buildOwnD1 (by assumption) TySl.h TyZ.h TyI.sz rfl rfl (by decide)) ⟨rfl, trivial⟩ (by exact ⟨rfl, trivial⟩) ?_) | (refine DC.t (T.buildSl1 _ _ TySl.h TyZ.h TyI.sz rfl rfl (by decide) rfl) ⟨rfl, trivial⟩ trivial ?_) | (refine DC.t (T.buildSl2 _ _ _ TySl.h TyZ.h TyI.sz rfl rfl rfl rfl (by decide) rfl) ⟨rfl, rfl, trivial⟩ trivial ?_) | (refine DC.t (T.buildSl0 _ TySl.h TyZ.h TyI.sz) trivial trivial ?_)) | (refine DC.k_makeSlice ?_; first | (refine DC.t (T.makeSlA (by assumption) TySl.h TyIn.h rfl (by omega) (by unfold maxLen; omega)) ⟨rfl, rfl, trivial⟩ (by exact ⟨rfl, trivial⟩) ?_) | (refine DC.t (T.makeSlD TySl.h TyIn.h rfl (by omega) (by unfold maxLen; omega)) ⟨rfl, rfl, trivial⟩ ⟨rfl, trivial⟩ ?_)) | (refine DC.k_slice ?_; first | (refine DC.t (T.cutH _ _ _ TySl.h TyI.sz (by omega)) ⟨rfl, rfl, trivial⟩ trivial ?_) | (refine DC.t (T.cutL _ _ _ TySl.h TyI.sz (by omega)) ⟨rfl, rfl, trivial⟩ trivial ?_)) | (refine DC.k_makeFunc ?_; first | (refine DC.t (T.makeFunc (fs := []) (cs := []) (fd := []) (cd := []) rfl rfl) trivial trivial ?_) | (refine DC.t (T.makeFunc (fs := []) (cs := [_]) (fd := []) (cd := [_]) rfl rfl) ⟨rfl, trivial⟩ trivial ?_) | (refine DC.t (T.makeFunc (fs := []) (cs := [_, _]) (fd := []) (cd := [_, _]) rfl rfl) ⟨rfl, rfl, trivial⟩ trivial ?_) | (refine DC.t (T.makeFunc (fs := []) (cs := [_, _, _]) (fd := []) (cd := [_, _, _]) rfl rfl) ⟨rfl, rfl, rfl, trivial⟩ trivial ?_) | (refine DC.t (T.makeFunc (fs := []) (cs := [_, _, _, _]) (fd := []) (cd := [_, _, _, _]) rfl rfl) ⟨rfl, rfl, rfl, rfl, trivial⟩ trivial ?_) | (refine DC.t (T.makeFunc (fs := []) (cs := [_, _, _, _, _]) (fd := []) (cd := [_, _, _, _, _]) rfl rfl) ⟨rfl, rfl, rfl, rfl, rfl, trivial⟩ trivial ?_) | (refine DC.t (T.makeFunc (fs := []) (cs := [_, _, _, _, _, _]) (fd := []) (cd := [_, _, _, _, _, _]) rfl rfl) ⟨rfl, rfl, rfl, rfl, rfl, rfl, trivial⟩ trivial ?_) | (refine DC.t (T.makeFunc (fs := [_]) (cs := []) (fd := [_]) (cd := []) rfl rfl) ⟨rfl, trivial⟩ trivial ?_) | (refine DC.t (T.makeFunc (fs := [_, _]) (cs := []) (fd := [_, _]) (cd := []) rfl rfl) ⟨rfl, rfl, trivial⟩ trivial ?_) | (refine DC.t (T.makeFunc (fs := [_, _, _]) (cs := []) (fd := [_, _, _]) (cd := []) rfl rfl) ⟨rfl, rfl, rfl, trivial⟩ trivial ?_)) | (refine DC.k_builtin ?_; first | (refine DC.t (T.lenSl _ _ TySl.h) ⟨rfl, trivial⟩ trivial ?_) | (refine DC.t (T.lenOwn _ _ TySl.h) ⟨rfl, trivial⟩ trivial ?_) | (refine DC.t (T.lenNil _ _ TySl.h) ⟨rfl, trivial⟩ trivial ?_) | (refine DC.t (T.minI _ _ _ (by first | assumption | rfl)) ⟨rfl, rfl, trivial⟩ trivial ?_) | (refine DC.t (T.append _ _ _ TySl.h TyIn.h rfl (by decide) (by decide) (by first | rfl | assumption | exact oneL_map (fun _ => rfl) _ | (simp [oneL, oneD, Value.oneCell']; done)) (by omega)) ⟨rfl, rfl, trivial⟩ ⟨rfl, trivial⟩ ?_) | (refine DC.t (T.appendOO _ _ _ TySl.h TyIn.h rfl (by decide) (by decide) (by first | rfl | assumption | exact oneL_map (fun _ => rfl) _ | (simp [oneL, oneD, Value.oneCell']; done)) (by omega)) ⟨rfl, rfl, trivial⟩ ⟨rfl, rfl, trivial⟩ ?_) | (refine DC.t (T.appendG _ _ _ TySl.h TyIn.h rfl (by decide) (by decide) Le.empty rfl (by omega)) ⟨rfl, rfl, trivial⟩ ⟨rfl, trivial⟩ ?_)) | (refine DC.k_callv ?_; first | (refine DC.t (T.call («as» := []) (ds' := []) EntC.h (by assumption) rfl rfl (LeL.refl _)) trivial trivial ?_) | (refine DC.t (T.call («as» := [_]) (ds' := [_]) EntC.h (by assumption) rfl rfl (LeL.refl _)) ⟨rfl, trivial⟩ trivial ?_) | (refine DC.t (T.call («as» := [_, _]) (ds' := [_, _]) EntC.h (by assumption) rfl rfl (LeL.refl _)) ⟨rfl, rfl, trivial⟩ trivial ?_) | (refine DC.t (T.call («as» := [_, _, _]) (ds' := [_, _, _]) EntC.h (by assumption) rfl rfl (LeL.refl _)) ⟨rfl, rfl, rfl, trivial⟩ trivial ?_) | (refine DC.t (T.call («as» := [_, _, _, _]) (ds' := [_, _, _, _]) EntC.h (by assumption) rfl rfl (LeL.refl _)) ⟨rfl, rfl, rfl, rfl, trivial⟩ trivial ?_) | (refine DC.t (T.call («as» := [_, _, _, _, _]) (ds' := [_, _, _, _, _]) EntC.h (by assumption) rfl rfl (LeL.refl _)) ⟨rfl, rfl, rfl, rfl, rfl, trivial⟩ trivial ?_) | (refine DC.t (T.call («as» := [_, _, _, _, _, _]) (ds' := [_, _, _, _, _, _]) EntC.h (by assumption) rfl rfl (LeL.refl _)) ⟨rfl, rfl, rfl, rfl, rfl, rfl, trivial⟩ trivial ?_)))
      | (refine DW.cT ?_)
      | (refine DW.cF ?_)
      | (refine DW.exit ?_)
      | (refine DW.ret ?_)
      | fail))
    exact hR.out) : DC P N ops i l s acc K := h ⟨k⟩
/-- The walker that stops ahead of the region with this number. -/
structure StopAt (k : Nat) : Prop where
theorem DW.regRN {id k : Nat} {l : List Oper} (hst : StopAt k) (h : DC P N l.toArray 0 l s [] (KR Q)) (hne : Nat.beq id k = false := by rfl) : DW P N (.region id l.toArray false) s Q := DW.regR h
theorem DW.regDN {id k : Nat} {l : List Oper} (hst : StopAt k) (hm : P.follows .mixedOrders = true) (hlt : ((List.range l.length).all fun i => ((l[i]?).map fun o => o.after.all fun e => !Region.binds .any e || decide (e.on < i)).getD true) = true)
    (h : DC P N l.toArray 0 l s [] (KD l Q)) (hne : Nat.beq id k = false := by rfl) : DW P N (.region id l.toArray true) s Q := DW.regD hm hlt h
theorem DW.walkTo (k : Nat) {c : Code} {R : Prop} (hr : R) (h : StopAt k → Hid R → DW P N c s Q := by
    intro hst hR
    (repeat (first
      | (refine DW.seq ?_)
      | (refine DW.block ?_)
      | (refine Thn.n ?_)
      | (refine Blk.n ?_)
      | (refine Blk.here ?_)
      | (refine Thn.e ?_)
      | (refine Blk.pass rfl ?_)
      | (refine Thn.r ?_)
      | (refine Blk.r ?_)
      | (refine DW.skip ?_)
      | (refine DW.label ?_)
      | (refine DW.regRN hst ?_)
      | (refine DW.regDN hst rfl (by kernel_rfl) ?_)
      | (refine DC.endR ?_)
      | (refine DC.endD ?_)
      | (refine DC.isOp ?_; first | (refine DC.off rfl rfl rfl rfl (by decide) ?_ rfl) | (refine DC.offG ?_) | (refine DC.k_move ?_; first | (refine DC.t (T.move _ _) ⟨rfl, trivial⟩ trivial ?_)) | (refine DC.k_assign ?_; first | (refine DC.t (T.assign _ _) ⟨rfl, trivial⟩ trivial ?_)) | (refine DC.k_load ?_; first | (refine DC.t (T.loadPtr _ _ TyI.ag TyI.sz (by first | rfl | assumption)) ⟨rfl, trivial⟩ trivial ?_) | (refine DC.t (T.loadRef _ _ TyI.ag TyI.sz (by first | rfl | assumption)) ⟨rfl, trivial⟩ ⟨rfl, trivial⟩ ?_) | (refine DC.t (T.loadElp _ _ TyI.ag TyI.sz (by first | rfl | assumption)) ⟨rfl, trivial⟩ ⟨rfl, trivial⟩ ?_)) | (refine DC.k_store ?_; first | (refine DC.t (T.storeRef _ _ _ TyI.sz rfl rfl (by first | rfl | simp [oneL, oneD, Value.oneCell']) (by first | decide | (simp; done) | omega | (simp; omega))) ⟨rfl, rfl, trivial⟩ ⟨rfl, trivial⟩ ?_) | (refine DC.t (T.storeElp _ _ _ TyI.sz rfl rfl (by first | rfl | simp [oneL, oneD, Value.oneCell']) (by first | decide | (simp; done) | omega | (simp; omega))) ⟨rfl, rfl, trivial⟩ ⟨rfl, trivial⟩ ?_)) | (refine DC.k_fieldAddr ?_; first | (refine DC.t (T.fieldPtr' _ _ _ TyFd.h (by decide)) ⟨rfl, trivial⟩ trivial ?_) | (refine DC.t (T.fieldRef' _ _ _ TyFd.h (by decide)) ⟨rfl, trivial⟩ trivial ?_)) | (refine DC.k_field ?_; first | (refine DC.t (T.field1 _ _ _ TyFd.h (by first | rfl | assumption)) ⟨rfl, trivial⟩ trivial ?_)) | (refine DC.k_indexAddr ?_; first | (refine DC.t (T.indexSl _ _ _ TySl.h TyI.sz (by omega) (by omega) (by decide)) ⟨rfl, rfl, trivial⟩ trivial ?_) | (refine DC.t (T.indexOwn _ _ _ TySl.h TyI.sz (by omega) (by omega)) ⟨rfl, rfl, trivial⟩ ⟨rfl, trivial⟩ ?_) | (refine DC.t (T.indexArr _ _ _ TyAr.h TyI.sz (by omega) (by omega)) ⟨rfl, rfl, trivial⟩ trivial ?_) | (refine DC.t (T.indexArrPtr _ _ _ TyAr.h TyI.sz (by omega) (by omega)) ⟨rfl, rfl, trivial⟩ trivial ?_)) | (refine DC.k_bin ?_; first | (refine DC.t (T.lss _ _ _ _) ⟨rfl, rfl, trivial⟩ trivial ?_) | (refine DC.t (T.leq _ _ _ _) ⟨rfl, rfl, trivial⟩ trivial ?_) | (refine DC.t (T.gtr _ _ _ _) ⟨rfl, rfl, trivial⟩ trivial ?_) | (refine DC.t (T.geq _ _ _ _) ⟨rfl, rfl, trivial⟩ trivial ?_) | (refine DC.t (T.eql _ _ _ _) ⟨rfl, rfl, trivial⟩ trivial ?_) | (refine DC.t (T.neq _ _ _ _) ⟨rfl, rfl, trivial⟩ trivial ?_) | (refine DC.t (T.add (k := .i64) _ _ _ _ (by first | exact w64 (by omega) (by omega) | assumption)) ⟨rfl, rfl, trivial⟩ trivial ?_) | (refine DC.t (T.sub (k := .i64) _ _ _ _ (by first | exact w64 (by omega) (by omega) | assumption)) ⟨rfl, rfl, trivial⟩ trivial ?_) | (refine DC.t (T.mul (k := .i64) _ _ _ _ (by first | exact w64 (by omega) (by omega) | assumption)) ⟨rfl, rfl, trivial⟩ trivial ?_) | (refine DC.t (T.quo (k := .i64) _ _ _ _ (by omega) (by first | exact quo64 (by omega) (by omega) (by omega) | assumption)) ⟨rfl, rfl, trivial⟩ trivial ?_) | (refine DC.t (T.rem (k := .i64) _ _ _ _ (by omega) (by first | exact rem64 (by omega) | assumption)) ⟨rfl, rfl, trivial⟩ trivial ?_) | (refine DC.t (T.eqNilS _ TySl.h (by omega) (by decide)) ⟨rfl, rfl, trivial⟩ trivial ?_) | (refine DC.t (T.eqNilF _ TySl.h) ⟨rfl, rfl, trivial⟩ trivial ?_) | (refine DC.t (T.eqNilO _ TySl.h (by omega)) ⟨rfl, rfl, trivial⟩ ⟨rfl, trivial⟩ ?_) | (refine DC.t (T.neqNilO _ TySl.h (by omega)) ⟨rfl, rfl, trivial⟩ ⟨rfl, trivial⟩ ?_) | (refine DC.t (T.neqNilS _ TySl.h (by omega) (by decide)) ⟨rfl, rfl, trivial⟩ trivial ?_) | (refine DC.t (T.neqNilF _ TySl.h) ⟨rfl, rfl, trivial⟩ trivial ?_) | (refine DC.t (T.eqlSame _ _ TyBo.h) ⟨rfl, rfl, trivial⟩ trivial ?_) | (refine DC.t (T.neqSame _ _ TyBo.h) ⟨rfl, rfl, trivial⟩ trivial ?_) | (refine DC.t (T.eqlB _ _ TyBo.h) ⟨rfl, rfl, trivial⟩ trivial ?_) | (refine DC.t (T.neqB _ _ TyBo.h) ⟨rfl, rfl, trivial⟩ trivial ?_)) | (refine DC.k_un ?_; first | (refine DC.t (T.not _ _) ⟨rfl, trivial⟩ trivial ?_)) | (refine DC.k_extract ?_; first | (refine DC.t (T.extract _ _ rfl) ⟨rfl, trivial⟩ trivial ?_)) | (refine DC.k_pick ?_; first | (refine DC.t (T.pickT' _ _ _ (by first | rfl | assumption | exact decide_eq_true (by first | assumption | omega) | exact decide_eq_false (by first | assumption | omega) | (simp only [*]; done) | fail)) ⟨rfl, rfl, trivial⟩ trivial ?_) | (refine DC.t (T.pickF' _ _ _ (by first | rfl | assumption | exact decide_eq_true (by first | assumption | omega) | exact decide_eq_false (by first | assumption | omega) | (simp only [*]; done) | fail)) ⟨rfl, rfl, trivial⟩ trivial ?_)) | (refine DC.k_alloc ?_; first | (refine DC.t (T.allocA (by assumption) TyZ.h) trivial (by exact ⟨rfl, trivial⟩) ?_) | (refine DC.t (T.allocD TyZ.h) trivial ⟨rfl, trivial⟩ ?_)) | (refine DC.k_box ?_; first | (refine DC.t (T.boxA (by assumption) rfl) ⟨rfl, trivial⟩ (by exact ⟨rfl, trivial⟩) ?_) | (refine DC.t (T.boxD rfl) ⟨rfl, trivial⟩ ⟨rfl, trivial⟩ ?_)) | (refine DC.k_build ?_; first | (refine DC.t (T.buildS1P TyPl.h TyZ.h rfl) ⟨rfl, trivial⟩ trivial ?_) | (refine DC.t (T.buildS2P TyPl.h TyZ.h rfl) ⟨rfl, rfl, trivial⟩ trivial ?_) | (refine DC.t (T.buildS3P TyPl.h TyZ.h rfl) ⟨rfl, rfl, rfl, trivial⟩ trivial ?_) | (refine DC.t (T.buildS4P TyPl.h TyZ.h rfl) ⟨rfl, rfl, rfl, rfl, trivial⟩ trivial ?_) | (refine DC.t (T.buildS0P TyPl.h TyZ.h) trivial trivial ?_) | (refine DC.t (T.buildA1 _ _ TyAr.h TyZ.h TyI.sz rfl) ⟨rfl, trivial⟩ trivial ?_) | (refine DC.t (T.buildA4 _ _ _ _ _ TyAr.h TyZ.h TyI.sz rfl) ⟨rfl, rfl, rfl, rfl, trivial⟩ trivial ?_)) | (refine DC.k_buildSlice ?_; first | (refine DC.t (T.buildOwnA0 (by assumption) TySl.h TyZ.h TyI.sz) trivial (by exact ⟨rfl, trivial⟩) ?_) | (refine DC.t (T.buildOwnA1 (by assumption) TySl.h TyZ.h TyI.sz rfl rfl (by decide)) ⟨rfl, trivial⟩ (by exact ⟨rfl, trivial⟩) ?_) | (refine DC.t (T.buildOwnD0 (by assumption) TySl.h TyZ.h TyI.sz) trivial (by exact ⟨rfl, trivial⟩) ?_) | (refine DC.t (T.buildOwnD1 (by assumption) TySl.h TyZ.h TyI.sz rfl rfl (by decide)) ⟨rfl, trivial⟩ (by exact ⟨rfl, trivial⟩) ?_) | (refine DC.t (T.buildSl1 _ _ TySl.h TyZ.h TyI.sz rfl rfl (by decide) rfl) ⟨rfl, trivial⟩ trivial ?_) | (refine DC.t (T.buildSl2 _ _ _ TySl.h TyZ.h TyI.sz rfl rfl rfl rfl (by decide) rfl) ⟨rfl, rfl, trivial⟩ trivial ?_) | (refine DC.t (T.buildSl0 _ TySl.h TyZ.h TyI.sz) trivial trivial ?_)) | (refine DC.k_makeSlice ?_; first | (refine DC.t (T.makeSlA (by assumption) TySl.h TyIn.h rfl (by omega) (by unfold maxLen; omega)) ⟨rfl, rfl, trivial⟩ (by exact ⟨rfl, trivial⟩) ?_) | (refine DC.t (T.makeSlD TySl.h TyIn.h rfl (by omega) (by unfold maxLen; omega)) ⟨rfl, rfl, trivial⟩ ⟨rfl, trivial⟩ ?_)) | (refine DC.k_slice ?_; first | (refine DC.t (T.cutH _ _ _ TySl.h TyI.sz (by omega)) ⟨rfl, rfl, trivial⟩ trivial ?_) | (refine DC.t (T.cutL _ _ _ TySl.h TyI.sz (by omega)) ⟨rfl, rfl, trivial⟩ trivial ?_)) | (refine DC.k_makeFunc ?_; first | (refine DC.t (T.makeFunc (fs := []) (cs := []) (fd := []) (cd := []) rfl rfl) trivial trivial ?_) | (refine DC.t (T.makeFunc (fs := []) (cs := [_]) (fd := []) (cd := [_]) rfl rfl) ⟨rfl, trivial⟩ trivial ?_) | (refine DC.t (T.makeFunc (fs := []) (cs := [_, _]) (fd := []) (cd := [_, _]) rfl rfl) ⟨rfl, rfl, trivial⟩ trivial ?_) | (refine DC.t (T.makeFunc (fs := []) (cs := [_, _, _]) (fd := []) (cd := [_, _, _]) rfl rfl) ⟨rfl, rfl, rfl, trivial⟩ trivial ?_) | (refine DC.t (T.makeFunc (fs := []) (cs := [_, _, _, _]) (fd := []) (cd := [_, _, _, _]) rfl rfl) ⟨rfl, rfl, rfl, rfl, trivial⟩ trivial ?_) | (refine DC.t (T.makeFunc (fs := []) (cs := [_, _, _, _, _]) (fd := []) (cd := [_, _, _, _, _]) rfl rfl) ⟨rfl, rfl, rfl, rfl, rfl, trivial⟩ trivial ?_) | (refine DC.t (T.makeFunc (fs := []) (cs := [_, _, _, _, _, _]) (fd := []) (cd := [_, _, _, _, _, _]) rfl rfl) ⟨rfl, rfl, rfl, rfl, rfl, rfl, trivial⟩ trivial ?_) | (refine DC.t (T.makeFunc (fs := [_]) (cs := []) (fd := [_]) (cd := []) rfl rfl) ⟨rfl, trivial⟩ trivial ?_) | (refine DC.t (T.makeFunc (fs := [_, _]) (cs := []) (fd := [_, _]) (cd := []) rfl rfl) ⟨rfl, rfl, trivial⟩ trivial ?_) | (refine DC.t (T.makeFunc (fs := [_, _, _]) (cs := []) (fd := [_, _, _]) (cd := []) rfl rfl) ⟨rfl, rfl, rfl, trivial⟩ trivial ?_)) | (refine DC.k_builtin ?_; first | (refine DC.t (T.lenSl _ _ TySl.h) ⟨rfl, trivial⟩ trivial ?_) | (refine DC.t (T.lenOwn _ _ TySl.h) ⟨rfl, trivial⟩ trivial ?_) | (refine DC.t (T.lenNil _ _ TySl.h) ⟨rfl, trivial⟩ trivial ?_) | (refine DC.t (T.minI _ _ _ (by first | assumption | rfl)) ⟨rfl, rfl, trivial⟩ trivial ?_) | (refine DC.t (T.append _ _ _ TySl.h TyIn.h rfl (by decide) (by decide) (by first | rfl | assumption | exact oneL_map (fun _ => rfl) _ | (simp [oneL, oneD, Value.oneCell']; done)) (by omega)) ⟨rfl, rfl, trivial⟩ ⟨rfl, trivial⟩ ?_) | (refine DC.t (T.appendOO _ _ _ TySl.h TyIn.h rfl (by decide) (by decide) (by first | rfl | assumption | exact oneL_map (fun _ => rfl) _ | (simp [oneL, oneD, Value.oneCell']; done)) (by omega)) ⟨rfl, rfl, trivial⟩ ⟨rfl, rfl, trivial⟩ ?_) | (refine DC.t (T.appendG _ _ _ TySl.h TyIn.h rfl (by decide) (by decide) Le.empty rfl (by omega)) ⟨rfl, rfl, trivial⟩ ⟨rfl, trivial⟩ ?_)) | (refine DC.k_callv ?_; first | (refine DC.t (T.call («as» := []) (ds' := []) EntC.h (by assumption) rfl rfl (LeL.refl _)) trivial trivial ?_) | (refine DC.t (T.call («as» := [_]) (ds' := [_]) EntC.h (by assumption) rfl rfl (LeL.refl _)) ⟨rfl, trivial⟩ trivial ?_) | (refine DC.t (T.call («as» := [_, _]) (ds' := [_, _]) EntC.h (by assumption) rfl rfl (LeL.refl _)) ⟨rfl, rfl, trivial⟩ trivial ?_) | (refine DC.t (T.call («as» := [_, _, _]) (ds' := [_, _, _]) EntC.h (by assumption) rfl rfl (LeL.refl _)) ⟨rfl, rfl, rfl, trivial⟩ trivial ?_) | (refine DC.t (T.call («as» := [_, _, _, _]) (ds' := [_, _, _, _]) EntC.h (by assumption) rfl rfl (LeL.refl _)) ⟨rfl, rfl, rfl, rfl, trivial⟩ trivial ?_) | (refine DC.t (T.call («as» := [_, _, _, _, _]) (ds' := [_, _, _, _, _]) EntC.h (by assumption) rfl rfl (LeL.refl _)) ⟨rfl, rfl, rfl, rfl, rfl, trivial⟩ trivial ?_) | (refine DC.t (T.call («as» := [_, _, _, _, _, _]) (ds' := [_, _, _, _, _, _]) EntC.h (by assumption) rfl rfl (LeL.refl _)) ⟨rfl, rfl, rfl, rfl, rfl, rfl, trivial⟩ trivial ?_)))
      | (refine DW.cT ?_)
      | (refine DW.cF ?_)
      | (refine DW.exit ?_)
      | (refine DW.ret ?_)
      | fail))
    exact hR.out) : DW P N c s Q := h ⟨⟩ ⟨hr⟩
theorem DC.walkTo (k : Nat) {ops : Array Oper} {i : Nat} {l : List Oper} {acc : List Sd} {K : DS → List Sd → Prop} {R : Prop} (hr : R) (h : StopAt k → Hid R → DC P N ops i l s acc K := by
    intro hst hR
    (repeat (first
      | (refine DW.seq ?_)
      | (refine DW.block ?_)
      | (refine Thn.n ?_)
      | (refine Blk.n ?_)
      | (refine Blk.here ?_)
      | (refine Thn.e ?_)
      | (refine Blk.pass rfl ?_)
      | (refine Thn.r ?_)
      | (refine Blk.r ?_)
      | (refine DW.skip ?_)
      | (refine DW.label ?_)
      | (refine DW.regRN hst ?_)
      | (refine DW.regDN hst rfl (by kernel_rfl) ?_)
      | (refine DC.endR ?_)
      | (refine DC.endD ?_)
      | (refine DC.isOp ?_; first | (refine DC.off rfl rfl rfl rfl (by decide) ?_ rfl) | (refine DC.offG ?_) | (refine DC.k_move ?_; first | (refine DC.t (T.move _ _) ⟨rfl, trivial⟩ trivial ?_)) | (refine DC.k_assign ?_; first | (refine DC.t (T.assign _ _) ⟨rfl, trivial⟩ trivial ?_)) | (refine DC.k_load ?_; first | (refine DC.t (T.loadPtr _ _ TyI.ag TyI.sz (by first | rfl | assumption)) ⟨rfl, trivial⟩ trivial ?_) | (refine DC.t (T.loadRef _ _ TyI.ag TyI.sz (by first | rfl | assumption)) ⟨rfl, trivial⟩ ⟨rfl, trivial⟩ ?_) | (refine DC.t (T.loadElp _ _ TyI.ag TyI.sz (by first | rfl | assumption)) ⟨rfl, trivial⟩ ⟨rfl, trivial⟩ ?_)) | (refine DC.k_store ?_; first | (refine DC.t (T.storeRef _ _ _ TyI.sz rfl rfl (by first | rfl | simp [oneL, oneD, Value.oneCell']) (by first | decide | (simp; done) | omega | (simp; omega))) ⟨rfl, rfl, trivial⟩ ⟨rfl, trivial⟩ ?_) | (refine DC.t (T.storeElp _ _ _ TyI.sz rfl rfl (by first | rfl | simp [oneL, oneD, Value.oneCell']) (by first | decide | (simp; done) | omega | (simp; omega))) ⟨rfl, rfl, trivial⟩ ⟨rfl, trivial⟩ ?_)) | (refine DC.k_fieldAddr ?_; first | (refine DC.t (T.fieldPtr' _ _ _ TyFd.h (by decide)) ⟨rfl, trivial⟩ trivial ?_) | (refine DC.t (T.fieldRef' _ _ _ TyFd.h (by decide)) ⟨rfl, trivial⟩ trivial ?_)) | (refine DC.k_field ?_; first | (refine DC.t (T.field1 _ _ _ TyFd.h (by first | rfl | assumption)) ⟨rfl, trivial⟩ trivial ?_)) | (refine DC.k_indexAddr ?_; first | (refine DC.t (T.indexSl _ _ _ TySl.h TyI.sz (by omega) (by omega) (by decide)) ⟨rfl, rfl, trivial⟩ trivial ?_) | (refine DC.t (T.indexOwn _ _ _ TySl.h TyI.sz (by omega) (by omega)) ⟨rfl, rfl, trivial⟩ ⟨rfl, trivial⟩ ?_) | (refine DC.t (T.indexArr _ _ _ TyAr.h TyI.sz (by omega) (by omega)) ⟨rfl, rfl, trivial⟩ trivial ?_) | (refine DC.t (T.indexArrPtr _ _ _ TyAr.h TyI.sz (by omega) (by omega)) ⟨rfl, rfl, trivial⟩ trivial ?_)) | (refine DC.k_bin ?_; first | (refine DC.t (T.lss _ _ _ _) ⟨rfl, rfl, trivial⟩ trivial ?_) | (refine DC.t (T.leq _ _ _ _) ⟨rfl, rfl, trivial⟩ trivial ?_) | (refine DC.t (T.gtr _ _ _ _) ⟨rfl, rfl, trivial⟩ trivial ?_) | (refine DC.t (T.geq _ _ _ _) ⟨rfl, rfl, trivial⟩ trivial ?_) | (refine DC.t (T.eql _ _ _ _) ⟨rfl, rfl, trivial⟩ trivial ?_) | (refine DC.t (T.neq _ _ _ _) ⟨rfl, rfl, trivial⟩ trivial ?_) | (refine DC.t (T.add (k := .i64) _ _ _ _ (by first | exact w64 (by omega) (by omega) | assumption)) ⟨rfl, rfl, trivial⟩ trivial ?_) | (refine DC.t (T.sub (k := .i64) _ _ _ _ (by first | exact w64 (by omega) (by omega) | assumption)) ⟨rfl, rfl, trivial⟩ trivial ?_) | (refine DC.t (T.mul (k := .i64) _ _ _ _ (by first | exact w64 (by omega) (by omega) | assumption)) ⟨rfl, rfl, trivial⟩ trivial ?_) | (refine DC.t (T.quo (k := .i64) _ _ _ _ (by omega) (by first | exact quo64 (by omega) (by omega) (by omega) | assumption)) ⟨rfl, rfl, trivial⟩ trivial ?_) | (refine DC.t (T.rem (k := .i64) _ _ _ _ (by omega) (by first | exact rem64 (by omega) | assumption)) ⟨rfl, rfl, trivial⟩ trivial ?_) | (refine DC.t (T.eqNilS _ TySl.h (by omega) (by decide)) ⟨rfl, rfl, trivial⟩ trivial ?_) | (refine DC.t (T.eqNilF _ TySl.h) ⟨rfl, rfl, trivial⟩ trivial ?_) | (refine DC.t (T.eqNilO _ TySl.h (by omega)) ⟨rfl, rfl, trivial⟩ ⟨rfl, trivial⟩ ?_) | (refine DC.t (T.neqNilO _ TySl.h (by omega)) ⟨rfl, rfl, trivial⟩ ⟨rfl, trivial⟩ ?_) | (refine DC.t (T.neqNilS _ TySl.h (by omega) (by decide)) ⟨rfl, rfl, trivial⟩ trivial ?_) | (refine DC.t (T.neqNilF _ TySl.h) ⟨rfl, rfl, trivial⟩ trivial ?_) | (refine DC.t (T.eqlSame _ _ TyBo.h) ⟨rfl, rfl, trivial⟩ trivial ?_) | (refine DC.t (T.neqSame _ _ TyBo.h) ⟨rfl, rfl, trivial⟩ trivial ?_) | (refine DC.t (T.eqlB _ _ TyBo.h) ⟨rfl, rfl, trivial⟩ trivial ?_) | (refine DC.t (T.neqB _ _ TyBo.h) ⟨rfl, rfl, trivial⟩ trivial ?_)) | (refine DC.k_un ?_; first | (refine DC.t (T.not _ _) ⟨rfl, trivial⟩ trivial ?_)) | (refine DC.k_extract ?_; first | (refine DC.t (T.extract _ _ rfl) ⟨rfl, trivial⟩ trivial ?_)) | (refine DC.k_pick ?_; first | (refine DC.t (T.pickT' _ _ _ (by first | rfl | assumption | exact decide_eq_true (by first | assumption | omega) | exact decide_eq_false (by first | assumption | omega) | (simp only [*]; done) | fail)) ⟨rfl, rfl, trivial⟩ trivial ?_) | (refine DC.t (T.pickF' _ _ _ (by first | rfl | assumption | exact decide_eq_true (by first | assumption | omega) | exact decide_eq_false (by first | assumption | omega) | (simp only [*]; done) | fail)) ⟨rfl, rfl, trivial⟩ trivial ?_)) | (refine DC.k_alloc ?_; first | (refine DC.t (T.allocA (by assumption) TyZ.h) trivial (by exact ⟨rfl, trivial⟩) ?_) | (refine DC.t (T.allocD TyZ.h) trivial ⟨rfl, trivial⟩ ?_)) | (refine DC.k_box ?_; first | (refine DC.t (T.boxA (by assumption) rfl) ⟨rfl, trivial⟩ (by exact ⟨rfl, trivial⟩) ?_) | (refine DC.t (T.boxD rfl) ⟨rfl, trivial⟩ ⟨rfl, trivial⟩ ?_)) | (refine DC.k_build ?_; first | (refine DC.t (T.buildS1P TyPl.h TyZ.h rfl) ⟨rfl, trivial⟩ trivial ?_) | (refine DC.t (T.buildS2P TyPl.h TyZ.h rfl) ⟨rfl, rfl, trivial⟩ trivial ?_) | (refine DC.t (T.buildS3P TyPl.h TyZ.h rfl) ⟨rfl, rfl, rfl, trivial⟩ trivial ?_) | (refine DC.t (T.buildS4P TyPl.h TyZ.h rfl) ⟨rfl, rfl, rfl, rfl, trivial⟩ trivial ?_) | (refine DC.t (T.buildS0P TyPl.h TyZ.h) trivial trivial ?_) | (refine DC.t (T.buildA1 _ _ TyAr.h TyZ.h TyI.sz rfl) ⟨rfl, trivial⟩ trivial ?_) | (refine DC.t (T.buildA4 _ _ _ _ _ TyAr.h TyZ.h TyI.sz rfl) ⟨rfl, rfl, rfl, rfl, trivial⟩ trivial ?_)) | (refine DC.k_buildSlice ?_; first | (refine DC.t (T.buildOwnA0 (by assumption) TySl.h TyZ.h TyI.sz) trivial (by exact ⟨rfl, trivial⟩) ?_) | (refine DC.t (T.buildOwnA1 (by assumption) TySl.h TyZ.h TyI.sz rfl rfl (by decide)) ⟨rfl, trivial⟩ (by exact ⟨rfl, trivial⟩) ?_) | (refine DC.t (T.buildOwnD0 (by assumption) TySl.h TyZ.h TyI.sz) trivial (by exact ⟨rfl, trivial⟩) ?_) | (refine DC.t (T.buildOwnD1 (by assumption) TySl.h TyZ.h TyI.sz rfl rfl (by decide)) ⟨rfl, trivial⟩ (by exact ⟨rfl, trivial⟩) ?_) | (refine DC.t (T.buildSl1 _ _ TySl.h TyZ.h TyI.sz rfl rfl (by decide) rfl) ⟨rfl, trivial⟩ trivial ?_) | (refine DC.t (T.buildSl2 _ _ _ TySl.h TyZ.h TyI.sz rfl rfl rfl rfl (by decide) rfl) ⟨rfl, rfl, trivial⟩ trivial ?_) | (refine DC.t (T.buildSl0 _ TySl.h TyZ.h TyI.sz) trivial trivial ?_)) | (refine DC.k_makeSlice ?_; first | (refine DC.t (T.makeSlA (by assumption) TySl.h TyIn.h rfl (by omega) (by unfold maxLen; omega)) ⟨rfl, rfl, trivial⟩ (by exact ⟨rfl, trivial⟩) ?_) | (refine DC.t (T.makeSlD TySl.h TyIn.h rfl (by omega) (by unfold maxLen; omega)) ⟨rfl, rfl, trivial⟩ ⟨rfl, trivial⟩ ?_)) | (refine DC.k_slice ?_; first | (refine DC.t (T.cutH _ _ _ TySl.h TyI.sz (by omega)) ⟨rfl, rfl, trivial⟩ trivial ?_) | (refine DC.t (T.cutL _ _ _ TySl.h TyI.sz (by omega)) ⟨rfl, rfl, trivial⟩ trivial ?_)) | (refine DC.k_makeFunc ?_; first | (refine DC.t (T.makeFunc (fs := []) (cs := []) (fd := []) (cd := []) rfl rfl) trivial trivial ?_) | (refine DC.t (T.makeFunc (fs := []) (cs := [_]) (fd := []) (cd := [_]) rfl rfl) ⟨rfl, trivial⟩ trivial ?_) | (refine DC.t (T.makeFunc (fs := []) (cs := [_, _]) (fd := []) (cd := [_, _]) rfl rfl) ⟨rfl, rfl, trivial⟩ trivial ?_) | (refine DC.t (T.makeFunc (fs := []) (cs := [_, _, _]) (fd := []) (cd := [_, _, _]) rfl rfl) ⟨rfl, rfl, rfl, trivial⟩ trivial ?_) | (refine DC.t (T.makeFunc (fs := []) (cs := [_, _, _, _]) (fd := []) (cd := [_, _, _, _]) rfl rfl) ⟨rfl, rfl, rfl, rfl, trivial⟩ trivial ?_) | (refine DC.t (T.makeFunc (fs := []) (cs := [_, _, _, _, _]) (fd := []) (cd := [_, _, _, _, _]) rfl rfl) ⟨rfl, rfl, rfl, rfl, rfl, trivial⟩ trivial ?_) | (refine DC.t (T.makeFunc (fs := []) (cs := [_, _, _, _, _, _]) (fd := []) (cd := [_, _, _, _, _, _]) rfl rfl) ⟨rfl, rfl, rfl, rfl, rfl, rfl, trivial⟩ trivial ?_) | (refine DC.t (T.makeFunc (fs := [_]) (cs := []) (fd := [_]) (cd := []) rfl rfl) ⟨rfl, trivial⟩ trivial ?_) | (refine DC.t (T.makeFunc (fs := [_, _]) (cs := []) (fd := [_, _]) (cd := []) rfl rfl) ⟨rfl, rfl, trivial⟩ trivial ?_) | (refine DC.t (T.makeFunc (fs := [_, _, _]) (cs := []) (fd := [_, _, _]) (cd := []) rfl rfl) ⟨rfl, rfl, rfl, trivial⟩ trivial ?_)) | (refine DC.k_builtin ?_; first | (refine DC.t (T.lenSl _ _ TySl.h) ⟨rfl, trivial⟩ trivial ?_) | (refine DC.t (T.lenOwn _ _ TySl.h) ⟨rfl, trivial⟩ trivial ?_) | (refine DC.t (T.lenNil _ _ TySl.h) ⟨rfl, trivial⟩ trivial ?_) | (refine DC.t (T.minI _ _ _ (by first | assumption | rfl)) ⟨rfl, rfl, trivial⟩ trivial ?_) | (refine DC.t (T.append _ _ _ TySl.h TyIn.h rfl (by decide) (by decide) (by first | rfl | assumption | exact oneL_map (fun _ => rfl) _ | (simp [oneL, oneD, Value.oneCell']; done)) (by omega)) ⟨rfl, rfl, trivial⟩ ⟨rfl, trivial⟩ ?_) | (refine DC.t (T.appendOO _ _ _ TySl.h TyIn.h rfl (by decide) (by decide) (by first | rfl | assumption | exact oneL_map (fun _ => rfl) _ | (simp [oneL, oneD, Value.oneCell']; done)) (by omega)) ⟨rfl, rfl, trivial⟩ ⟨rfl, rfl, trivial⟩ ?_) | (refine DC.t (T.appendG _ _ _ TySl.h TyIn.h rfl (by decide) (by decide) Le.empty rfl (by omega)) ⟨rfl, rfl, trivial⟩ ⟨rfl, trivial⟩ ?_)) | (refine DC.k_callv ?_; first | (refine DC.t (T.call («as» := []) (ds' := []) EntC.h (by assumption) rfl rfl (LeL.refl _)) trivial trivial ?_) | (refine DC.t (T.call («as» := [_]) (ds' := [_]) EntC.h (by assumption) rfl rfl (LeL.refl _)) ⟨rfl, trivial⟩ trivial ?_) | (refine DC.t (T.call («as» := [_, _]) (ds' := [_, _]) EntC.h (by assumption) rfl rfl (LeL.refl _)) ⟨rfl, rfl, trivial⟩ trivial ?_) | (refine DC.t (T.call («as» := [_, _, _]) (ds' := [_, _, _]) EntC.h (by assumption) rfl rfl (LeL.refl _)) ⟨rfl, rfl, rfl, trivial⟩ trivial ?_) | (refine DC.t (T.call («as» := [_, _, _, _]) (ds' := [_, _, _, _]) EntC.h (by assumption) rfl rfl (LeL.refl _)) ⟨rfl, rfl, rfl, rfl, trivial⟩ trivial ?_) | (refine DC.t (T.call («as» := [_, _, _, _, _]) (ds' := [_, _, _, _, _]) EntC.h (by assumption) rfl rfl (LeL.refl _)) ⟨rfl, rfl, rfl, rfl, rfl, trivial⟩ trivial ?_) | (refine DC.t (T.call («as» := [_, _, _, _, _, _]) (ds' := [_, _, _, _, _, _]) EntC.h (by assumption) rfl rfl (LeL.refl _)) ⟨rfl, rfl, rfl, rfl, rfl, rfl, trivial⟩ trivial ?_)))
      | (refine DW.cT ?_)
      | (refine DW.cF ?_)
      | (refine DW.exit ?_)
      | (refine DW.ret ?_)
      | fail))
    exact hR.out) : DC P N ops i l s acc K := h ⟨⟩ ⟨hr⟩
end

/-! one state for another, found by itself -/
section
variable {N : Nat} {σ σ' : Sg} {f f' : Fr}
theorem Sub.adoptA {k id : Nat} (hm : IdAt k id) (t : Nat) (e n : Nat) (ht : lkF f t = .flat (.slice none 0 0) := by rfl) (hi : lkE σ id = none := by rfl) (hid : newId N id = true := by first | exact rfl | decide +kernel) : Sub N ⟨f, σ⟩ ⟨(t, .own id 0) :: f, (id, some (.row e n 0 [])) :: σ⟩ := Sub.adopt t id e n ht hi hid
/-- All roads lead to this state. -/
def Nm (N : Nat) (S2 : DS) : Exit → DS → Prop := fun e s => e = .normal ∧ Sub N s S2
theorem Nm.mk {s S2 : DS} (h : Sub N s S2) : Nm N S2 .normal s := ⟨rfl, h⟩
theorem DW.cut {P : Program} {x y : Code} {s : DS} {Q : Exit → DS → Prop} (S2 : DS) (h1 : DW P N x s (Nm N S2)) (h2 : DW P N y S2 Q) : DW P N x s (Thn (fun s' => DW P N y s' Q) Q) := h1.mono fun e s' ⟨q1, q2⟩ => by subst q1; exact DW.sub q2 h2
theorem DW.cut2 {P : Program} {c y rest : Code} {s : DS} {Q : Exit → DS → Prop} (S2 : DS) (h1 : DW P N c s (Thn (fun s' => DW P N y s' (Nm N S2)) (Nm N S2))) (h2 : DW P N rest S2 Q) : DW P N c s (Thn (fun s' => DW P N y s' (Thn (fun s'' => DW P N rest s'' Q) Q)) (Thn (fun s'' => DW P N rest s'' Q) Q)) := h1.mono fun e s' q => by
  cases e with
  | normal => exact DW.cut S2 q h2
  | _ => exact absurd q.1 (by simp)
theorem dis_of {lp gp : Sg} (h : ((keys gp).all fun id => (fnd lp id).isNone) = true) : ∀ id, (fnd lp id).isSome = true → (fnd gp id).isSome = false := fun id hi => by
  cases hb : fnd gp id with
  | none => rfl
  | some x =>
    refine absurd (List.all_eq_true.1 h id (Classical.byContradiction fun hk => ?_)) (fun hn => ?_)
    · rw [fnd_none hk] at hb; cases hb
    · rw [Option.isNone_iff_eq_none] at hn; rw [hn] at hi; cases hi
theorem DW.adj {P : Program} {c : Code} {s : DS} {Q : Exit → DS → Prop} (h : DW P N c s (fun e s' => ∃ s2, Sub N s' s2 ∧ Q e s2)) : DW P N c s Q := ⟨fun w0 M0 B0 a w hs => wp_mono (h.go w0 M0 B0 a w hs) fun e a w ⟨s', ⟨s2, q1, q2⟩, r⟩ => ⟨s2, q2, q1 _ _ _ _ _ r⟩⟩
theorem FsOk.cons {t : Nat} {d : D} (h : Vs σ σ' (lkF f t) d) (h2 : FsOk σ σ' f f') : FsOk σ σ' f ((t, d) :: f') := ⟨h, h2⟩
theorem VsL.nil' : VsL σ σ' [] [] := trivial
theorem VsL.cons' {d e : D} {ds es : List D} (h : Vs σ σ' d e) (t : VsL σ σ' ds es) : VsL σ σ' (d :: ds) (e :: es) := ⟨h, t⟩
theorem Vs.int' {k : IntKind} {a b : Int} {x : D} (hx : x = .flat (.int k a)) (h : a = b) : Vs σ σ' x (.flat (.int k b)) := by subst hx; exact Vs.int h
theorem Vs.clo' {fn : Fn} {cs cs' es es' : List D} {x : D} (hx : x = .clo fn cs es) (h : VsL σ σ' cs cs') (h2 : VsL σ σ' es es') : Vs σ σ' x (.clo fn cs' es') := by subst hx; exact Vs.clo h h2
theorem Vs.eq' {x d d' : D} (hx : x = d) (h : d = d') (hp : Dm.pers d' = true) : Vs σ σ' x d' := by subst hx; exact Vs.eq h hp
theorem Vs.own' {id L L' e n e' n' : Nat} {cs cs' : List D} {x : D} (hx : x = .own id L) (h : lkE σ id = some (.row e n L cs)) (h' : lkE σ' id = some (.row e' n' L' cs')) (hL : L = L') : Vs σ σ' x (.own id L') := by subst hx; subst hL; exact Vs.own h h'
theorem Vs.ref' {id off : Nat} {cs' : List D} {x : D} (hx : x = .ref id off) (h' : lkE σ' id = some (.box cs')) : Vs σ σ' x (.ref id off) := by subst hx; exact Vs.ref h'
theorem Vs.dead' {id L L' : Nat} {x : D} (hx : x = .own id L) (h' : lkE σ' id = some .dead) (hL : L = L') : Vs σ σ' x (.own id L') := by subst hx; subst hL; exact Vs.dead h'
theorem Vs.shutOwn' {id L L' e n : Nat} {cs cs' : List D} {x : D} (hx : x = .own id L) (h : lkE σ id = some (.row e n L cs)) (h0 : lkE σ' id = none) (hL : L = L') (hc : cs = cs') (hp : persL cs' = true) : Vs σ σ' x (.sl false n L' cs') := by
  subst hx; subst hL; subst hc
  exact Vs.shut (pe := [(id, some (.row e n L cs))]) ⟨h, trivial⟩ (Vw.own (List.mem_cons_self ..) (VwL.pers hp)) (by simp only [keys, List.mem_singleton]; rintro _ rfl; exact h0)
theorem Vs.shutRef' {id off : Nat} {cs cs' : List D} {x : D} (hx : x = .ref id off) (h : lkE σ id = some (.box cs)) (h0 : lkE σ' id = none) (hc : cs = cs') (hp : persL cs' = true) (hne : cs'.isEmpty = false) : Vs σ σ' x (.ptr cs' off) := by
  subst hx; subst hc
  exact Vs.shut (pe := [(id, some (.box cs))]) ⟨h, trivial⟩ (Vw.ref (List.mem_cons_self ..) (VwL.pers hp) (fun e => by rw [e] at hne; cases hne)) (by simp only [keys, List.mem_singleton]; rintro _ rfl; exact h0)
theorem EsOk.nil' : EsOk σ σ' [] := trivial
theorem EsOk.none' {id : Nat} {r : Sg} (t : EsOk σ σ' r) : EsOk σ σ' ((id, none) :: r) := ⟨trivial, t⟩
theorem EsOk.dead' {id : Nat} {r : Sg} (t : EsOk σ σ' r) : EsOk σ σ' ((id, some .dead) :: r) := ⟨trivial, t⟩
theorem EsOk.box' {id : Nat} {cs cs' : List D} {r : Sg} (h : lkE σ id = some (.box cs)) (hv : VsL σ σ' cs cs') (t : EsOk σ σ' r) : EsOk σ σ' ((id, some (.box cs')) :: r) := ⟨⟨cs, h, hv⟩, t⟩
theorem EsOk.row' {id e n L L' : Nat} {cs cs' : List D} {r : Sg} (h : lkE σ id = some (.row e n L cs)) (hL : L = L') (hv : VsL σ σ' cs cs') (t : EsOk σ σ' r) : EsOk σ σ' ((id, some (.row e n L' cs')) :: r) := by subst hL; exact ⟨⟨cs, h, hv⟩, t⟩
theorem VsL.eq' {ds es : List D} (h : ds = es) (hp : persL es = true) : VsL σ σ' ds es := VsL.eq h hp
theorem VsL.eqL {ds es : List D} (h : ds = es) (hp : persL ds = true) : VsL σ σ' ds es := by subst h; exact VsL.pers hp
theorem Sub.auto (h1 : EsOk σ σ' σ' := by (repeat (first | exact EsOk.nil' | refine EsOk.none' ?_ | refine EsOk.dead' ?_ | refine EsOk.box' rfl (by first | exact VsL.pers rfl | exact VsL.pers (persL_map (fun _ => rfl) _) | assumption | exact VsL.eq' (by first | rfl | assumption | (simp; done)) (by first | rfl | exact persL_map (fun _ => rfl) _ | assumption) | exact VsL.eqL (by first | rfl | assumption | (simp; done)) (by first | rfl | exact persL_map (fun _ => rfl) _ | assumption) | (repeat (first | exact VsL.nil' | refine VsL.cons' (by first | exact Vs.pers rfl | exact Vs.int' rfl (by first | rfl | omega | (simp; done) | (simp; omega) | (push_cast; omega)) | exact Vs.own' rfl rfl rfl (by first | rfl | omega | (simp; done) | (simp; omega)) | exact Vs.ref' rfl rfl | exact Vs.nil | exact Vs.eq' rfl (by first | assumption | (simp; done) | (simp; omega)) rfl | exact Vs.any _ | exact Vs.clo' rfl (VsL.pers rfl) (by repeat (first | exact VsL.nil' | refine VsL.cons' (by first | exact Vs.pers rfl | exact Vs.ref' rfl rfl | exact Vs.own' rfl rfl rfl rfl) ?_)) | exact Vs.shutOwn' rfl rfl rfl (by first | rfl | omega | (simp; done)) (by first | rfl | assumption | (simp; done)) (by first | rfl | exact persL_map (fun _ => rfl) _ | assumption) | exact Vs.shutRef' rfl rfl rfl (by first | rfl | assumption | (simp; done)) (by first | rfl | assumption) rfl | exact Vs.dead' rfl rfl (by first | rfl | omega | (simp; done)) | assumption) ?_))) ?_ | refine EsOk.row' rfl (by first | rfl | omega | (simp; done) | (simp; omega)) (by first | exact VsL.pers rfl | exact VsL.pers (persL_map (fun _ => rfl) _) | assumption | exact VsL.eq' (by first | rfl | assumption | (simp; done)) (by first | rfl | exact persL_map (fun _ => rfl) _ | assumption) | exact VsL.eqL (by first | rfl | assumption | (simp; done)) (by first | rfl | exact persL_map (fun _ => rfl) _ | assumption) | (repeat (first | exact VsL.nil' | refine VsL.cons' (by first | exact Vs.pers rfl | exact Vs.int' rfl (by first | rfl | omega | (simp; done) | (simp; omega) | (push_cast; omega)) | exact Vs.own' rfl rfl rfl (by first | rfl | omega | (simp; done) | (simp; omega)) | exact Vs.ref' rfl rfl | exact Vs.nil | exact Vs.eq' rfl (by first | assumption | (simp; done) | (simp; omega)) rfl | exact Vs.any _ | exact Vs.clo' rfl (VsL.pers rfl) (by repeat (first | exact VsL.nil' | refine VsL.cons' (by first | exact Vs.pers rfl | exact Vs.ref' rfl rfl | exact Vs.own' rfl rfl rfl rfl) ?_)) | exact Vs.shutOwn' rfl rfl rfl (by first | rfl | omega | (simp; done)) (by first | rfl | assumption | (simp; done)) (by first | rfl | exact persL_map (fun _ => rfl) _ | assumption) | exact Vs.shutRef' rfl rfl rfl (by first | rfl | assumption | (simp; done)) (by first | rfl | assumption) rfl | exact Vs.dead' rfl rfl (by first | rfl | omega | (simp; done)) | assumption) ?_))) ?_))) (h2 : FsOk σ σ' f f' := by (repeat (first | exact trivial | refine FsOk.cons (by first | exact Vs.pers rfl | exact Vs.int' rfl (by first | rfl | omega | (simp; done) | (simp; omega) | (push_cast; omega)) | exact Vs.own' rfl rfl rfl (by first | rfl | omega | (simp; done) | (simp; omega)) | exact Vs.ref' rfl rfl | exact Vs.nil | exact Vs.eq' rfl (by first | assumption | (simp; done) | (simp; omega)) rfl | exact Vs.any _ | exact Vs.clo' rfl (VsL.pers rfl) (by repeat (first | exact VsL.nil' | refine VsL.cons' (by first | exact Vs.pers rfl | exact Vs.ref' rfl rfl | exact Vs.own' rfl rfl rfl rfl) ?_)) | exact Vs.shutOwn' rfl rfl rfl (by first | rfl | omega | (simp; done)) (by first | rfl | assumption | (simp; done)) (by first | rfl | exact persL_map (fun _ => rfl) _ | assumption) | exact Vs.shutRef' rfl rfl rfl (by first | rfl | assumption | (simp; done)) (by first | rfl | assumption) rfl | exact Vs.dead' rfl rfl (by first | rfl | omega | (simp; done)) | assumption) ?_))) : Sub N ⟨f, σ⟩ ⟨f', σ'⟩ := Sub.of h1 h2
theorem DW.loopA {P : Program} {Q : Exit → DS → Prop} {X : Type} {c : Code} (I : X → DS) (C : X → Prop) (μ : X → Nat) (x0 : X) (round : ∀ x, C x → DW P N c (I x) (Thn (fun s' => ∃ x', C x' ∧ μ x' < μ x ∧ Sub N s' (I x')) Q)) (h0 : C x0) (hs : Sub N ⟨f, σ⟩ (I x0) := by first | exact Sub.auto) : DW P N (.loop c) ⟨f, σ⟩ Q := DW.loop I C μ x0 h0 hs round
theorem ResL.oneA {P : Program} {fn : Func} {s : DS} {we : Sg} {t : Tmp} {d : D} (hr : fn.results = #[.tmp t] := by rfl) (h1 : EsOk s.σ we we := by (repeat (first | exact EsOk.nil' | refine EsOk.none' ?_ | refine EsOk.dead' ?_ | refine EsOk.box' rfl (by first | exact VsL.pers rfl | exact VsL.pers (persL_map (fun _ => rfl) _) | assumption | exact VsL.eq' (by first | rfl | assumption | (simp; done)) (by first | rfl | exact persL_map (fun _ => rfl) _ | assumption) | exact VsL.eqL (by first | rfl | assumption | (simp; done)) (by first | rfl | exact persL_map (fun _ => rfl) _ | assumption) | (repeat (first | exact VsL.nil' | refine VsL.cons' (by first | exact Vs.pers rfl | exact Vs.int' rfl (by first | rfl | omega | (simp; done) | (simp; omega) | (push_cast; omega)) | exact Vs.own' rfl rfl rfl (by first | rfl | omega | (simp; done) | (simp; omega)) | exact Vs.ref' rfl rfl | exact Vs.nil | exact Vs.eq' rfl (by first | assumption | (simp; done) | (simp; omega)) rfl | exact Vs.any _ | exact Vs.clo' rfl (VsL.pers rfl) (by repeat (first | exact VsL.nil' | refine VsL.cons' (by first | exact Vs.pers rfl | exact Vs.ref' rfl rfl | exact Vs.own' rfl rfl rfl rfl) ?_)) | exact Vs.shutOwn' rfl rfl rfl (by first | rfl | omega | (simp; done)) (by first | rfl | assumption | (simp; done)) (by first | rfl | exact persL_map (fun _ => rfl) _ | assumption) | exact Vs.shutRef' rfl rfl rfl (by first | rfl | assumption | (simp; done)) (by first | rfl | assumption) rfl | exact Vs.dead' rfl rfl (by first | rfl | omega | (simp; done)) | assumption) ?_))) ?_ | refine EsOk.row' rfl (by first | rfl | omega | (simp; done) | (simp; omega)) (by first | exact VsL.pers rfl | exact VsL.pers (persL_map (fun _ => rfl) _) | assumption | exact VsL.eq' (by first | rfl | assumption | (simp; done)) (by first | rfl | exact persL_map (fun _ => rfl) _ | assumption) | exact VsL.eqL (by first | rfl | assumption | (simp; done)) (by first | rfl | exact persL_map (fun _ => rfl) _ | assumption) | (repeat (first | exact VsL.nil' | refine VsL.cons' (by first | exact Vs.pers rfl | exact Vs.int' rfl (by first | rfl | omega | (simp; done) | (simp; omega) | (push_cast; omega)) | exact Vs.own' rfl rfl rfl (by first | rfl | omega | (simp; done) | (simp; omega)) | exact Vs.ref' rfl rfl | exact Vs.nil | exact Vs.eq' rfl (by first | assumption | (simp; done) | (simp; omega)) rfl | exact Vs.any _ | exact Vs.clo' rfl (VsL.pers rfl) (by repeat (first | exact VsL.nil' | refine VsL.cons' (by first | exact Vs.pers rfl | exact Vs.ref' rfl rfl | exact Vs.own' rfl rfl rfl rfl) ?_)) | exact Vs.shutOwn' rfl rfl rfl (by first | rfl | omega | (simp; done)) (by first | rfl | assumption | (simp; done)) (by first | rfl | exact persL_map (fun _ => rfl) _ | assumption) | exact Vs.shutRef' rfl rfl rfl (by first | rfl | assumption | (simp; done)) (by first | rfl | assumption) rfl | exact Vs.dead' rfl rfl (by first | rfl | omega | (simp; done)) | assumption) ?_))) ?_))) (h2 : FsOk s.σ we s.f [(t, d)] := by (repeat (first | exact trivial | refine FsOk.cons (by first | exact Vs.pers rfl | exact Vs.int' rfl (by first | rfl | omega | (simp; done) | (simp; omega) | (push_cast; omega)) | exact Vs.own' rfl rfl rfl (by first | rfl | omega | (simp; done) | (simp; omega)) | exact Vs.ref' rfl rfl | exact Vs.nil | exact Vs.eq' rfl (by first | assumption | (simp; done) | (simp; omega)) rfl | exact Vs.any _ | exact Vs.clo' rfl (VsL.pers rfl) (by repeat (first | exact VsL.nil' | refine VsL.cons' (by first | exact Vs.pers rfl | exact Vs.ref' rfl rfl | exact Vs.own' rfl rfl rfl rfl) ?_)) | exact Vs.shutOwn' rfl rfl rfl (by first | rfl | omega | (simp; done)) (by first | rfl | assumption | (simp; done)) (by first | rfl | exact persL_map (fun _ => rfl) _ | assumption) | exact Vs.shutRef' rfl rfl rfl (by first | rfl | assumption | (simp; done)) (by first | rfl | assumption) rfl | exact Vs.dead' rfl rfl (by first | rfl | omega | (simp; done)) | assumption) ?_))) : ResL P fn N s we d := ResL.one (f' := [(t, d)]) hr h1 h2 (by simp [lkF])
theorem ResL.unitA {P : Program} {fn : Func} {s : DS} {we : Sg} (hr : fn.results = #[] := by rfl) (h1 : EsOk s.σ we we := by (repeat (first | exact EsOk.nil' | refine EsOk.none' ?_ | refine EsOk.dead' ?_ | refine EsOk.box' rfl (by first | exact VsL.pers rfl | exact VsL.pers (persL_map (fun _ => rfl) _) | assumption | exact VsL.eq' (by first | rfl | assumption | (simp; done)) (by first | rfl | exact persL_map (fun _ => rfl) _ | assumption) | exact VsL.eqL (by first | rfl | assumption | (simp; done)) (by first | rfl | exact persL_map (fun _ => rfl) _ | assumption) | (repeat (first | exact VsL.nil' | refine VsL.cons' (by first | exact Vs.pers rfl | exact Vs.int' rfl (by first | rfl | omega | (simp; done) | (simp; omega) | (push_cast; omega)) | exact Vs.own' rfl rfl rfl (by first | rfl | omega | (simp; done) | (simp; omega)) | exact Vs.ref' rfl rfl | exact Vs.nil | exact Vs.eq' rfl (by first | assumption | (simp; done) | (simp; omega)) rfl | exact Vs.any _ | exact Vs.clo' rfl (VsL.pers rfl) (by repeat (first | exact VsL.nil' | refine VsL.cons' (by first | exact Vs.pers rfl | exact Vs.ref' rfl rfl | exact Vs.own' rfl rfl rfl rfl) ?_)) | exact Vs.shutOwn' rfl rfl rfl (by first | rfl | omega | (simp; done)) (by first | rfl | assumption | (simp; done)) (by first | rfl | exact persL_map (fun _ => rfl) _ | assumption) | exact Vs.shutRef' rfl rfl rfl (by first | rfl | assumption | (simp; done)) (by first | rfl | assumption) rfl | exact Vs.dead' rfl rfl (by first | rfl | omega | (simp; done)) | assumption) ?_))) ?_ | refine EsOk.row' rfl (by first | rfl | omega | (simp; done) | (simp; omega)) (by first | exact VsL.pers rfl | exact VsL.pers (persL_map (fun _ => rfl) _) | assumption | exact VsL.eq' (by first | rfl | assumption | (simp; done)) (by first | rfl | exact persL_map (fun _ => rfl) _ | assumption) | exact VsL.eqL (by first | rfl | assumption | (simp; done)) (by first | rfl | exact persL_map (fun _ => rfl) _ | assumption) | (repeat (first | exact VsL.nil' | refine VsL.cons' (by first | exact Vs.pers rfl | exact Vs.int' rfl (by first | rfl | omega | (simp; done) | (simp; omega) | (push_cast; omega)) | exact Vs.own' rfl rfl rfl (by first | rfl | omega | (simp; done) | (simp; omega)) | exact Vs.ref' rfl rfl | exact Vs.nil | exact Vs.eq' rfl (by first | assumption | (simp; done) | (simp; omega)) rfl | exact Vs.any _ | exact Vs.clo' rfl (VsL.pers rfl) (by repeat (first | exact VsL.nil' | refine VsL.cons' (by first | exact Vs.pers rfl | exact Vs.ref' rfl rfl | exact Vs.own' rfl rfl rfl rfl) ?_)) | exact Vs.shutOwn' rfl rfl rfl (by first | rfl | omega | (simp; done)) (by first | rfl | assumption | (simp; done)) (by first | rfl | exact persL_map (fun _ => rfl) _ | assumption) | exact Vs.shutRef' rfl rfl rfl (by first | rfl | assumption | (simp; done)) (by first | rfl | assumption) rfl | exact Vs.dead' rfl rfl (by first | rfl | omega | (simp; done)) | assumption) ?_))) ?_))) : ResL P fn N s we (.tup []) := ResL.unit (f' := []) hr h1 trivial
theorem GrowK.nil' {we : Sg} : GrowK we [] := trivial
theorem GrowK.none' {we r : Sg} {id : Nat} (h : GrowK we r) : GrowK we ((id, none) :: r) := ⟨trivial, h⟩
theorem GrowK.box' {we r : Sg} {id : Nat} {cs cs' : List D} (h1 : lkE we id = some (.box cs')) (h : GrowK we r) : GrowK we ((id, some (.box cs)) :: r) := ⟨⟨cs', h1⟩, h⟩
theorem GrowK.row' {we r : Sg} {id e n len e' n' len' : Nat} {cs cs' : List D} (h1 : lkE we id = some (.row e' n' len' cs')) (hl : len ≤ len') (h : GrowK we r) : GrowK we ((id, some (.row e n len cs)) :: r) := ⟨⟨e', n', len', cs', h1, hl⟩, h⟩
theorem DFun.enterA {P : Program} {k : FuncId} {fn : Func} {c : Code} {args : List D} {d : D} (hf : P.funcs[k]? = some fn) (hn : fn.ntmps = N)
    (h : DW P N c ⟨argF 0 args, []⟩ (fun e s => (e = .normal ∨ e = .ret) ∧ ResOk P fn s d)) (hb : fn.body = some c := by rfl) (hN : args.length ≤ N := by first | decide | (simp; done)) : DFun P k args d := DFun.enter hf hb hn hN h
theorem DLend.enterA {P : Program} {k : FuncId} {fn : Func} {c : Code} {args : List D} {d : D} {pe we : Sg} (hf : P.funcs[k]? = some fn) (hn : fn.ntmps = N)
    (h : DW P N c ⟨argF 0 args, pe⟩ (fun e s => (e = .normal ∨ e = .ret) ∧ ResL P fn N s we d)) (hb : fn.body = some c := by rfl) (hN : args.length ≤ N := by first | decide | (simp; done)) (hold : (pe.all fun p => p.2.isNone || !newId N p.1) = true := by first | rfl | kernel_rfl)
    (hgk : GrowK we pe := by (repeat (first | exact GrowK.nil' | refine GrowK.none' ?_ | refine GrowK.box' rfl ?_ | refine GrowK.row' rfl (by first | exact Nat.le_refl _ | omega | (simp; done) | (simp; omega)) ?_))) : DLend P k args pe we d := DLend.enter hf hb hn hN hold hgk h
end
end Go.Dm
