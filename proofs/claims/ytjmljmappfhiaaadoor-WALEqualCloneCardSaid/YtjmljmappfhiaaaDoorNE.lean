/- A machine over data: memory. No condition. -/
import Derived.Test.YtjmljmappfhiaaaDoorNDd
set_option linter.unusedSimpArgs false
set_option linter.unusedVariables false
set_option linter.unusedSectionVars false
set_option maxHeartbeats 400000
namespace Go.Dm
open Go Go.RowKit Go.PP
variable [GlobW]

def oneD : D → Bool
  | .flat v => v.oneCell'
  | .sl .. | .ptr .. | .own .. | .ref .. | .elp .. | .clo .. | .bsl .. | .mp .. => true
  | _ => false
theorem Rep.oneC {M : Nat → Prop} {w : World} {G : Cx} {d : D} {u : Value} (h : oneD d = true) (hv : Rep M w G d u) : u.oneCell' = true ∧ u.cells = #[u] := by
  cases d with
  | any => simp [oneD] at h
  | flat v =>
    simp only [Rep] at hv
    subst hv
    simp only [oneD] at h
    refine ⟨h, ?_⟩
    cases u <;> first | rfl | (simp [Value.oneCell'] at h)
  | agg cs => simp [oneD] at h
  | tup cs => simp [oneD] at h
  | sl f n l cs => simp only [Rep] at hv; obtain ⟨a, c, rfl, _⟩ := hv; exact ⟨rfl, rfl⟩
  | ptr cs o => simp only [Rep] at hv; obtain ⟨a, c, rfl, _⟩ := hv; exact ⟨rfl, rfl⟩
  | own id L => simp only [Rep] at hv; obtain ⟨_, _, _, _, _, _, _, _, _, _, a, c, rfl⟩ := hv; exact ⟨rfl, rfl⟩
  | ref id o => simp only [Rep] at hv; obtain ⟨_, _, _, _, _, rfl⟩ := hv; exact ⟨rfl, rfl⟩
  | elp id L o => simp only [Rep] at hv; obtain ⟨_, _, _, _, _, _, _, _, _, _, a, rfl⟩ := hv; exact ⟨rfl, rfl⟩
  | clo f a b => simp only [Rep] at hv; obtain ⟨_, _, rfl, _⟩ := hv; exact ⟨rfl, rfl⟩
  | keys ks => simp [oneD] at h
  | bsl id o l c => simp only [Rep] at hv; obtain ⟨_, _, _, _, _, rfl⟩ := hv; exact ⟨rfl, rfl⟩
  | mp id => simp only [Rep] at hv; obtain ⟨_, _, _, _, _, rfl⟩ := hv; exact ⟨rfl, rfl⟩
def oneL : List D → Bool
  | [] => true
  | d :: ds => oneD d && oneL ds
theorem RepL.one {M : Nat → Prop} {w : World} {G : Cx} : ∀ {ds : List D} {vs : List Value}, oneL ds = true → RepL M w G ds vs → ∀ v ∈ vs, v.oneCell' = true
  | [], vs, _, h => by simp only [RepL] at h; subst h; simp
  | d :: ds, vs, ho, h => by
    simp only [oneL, Bool.and_eq_true] at ho
    simp only [RepL] at h
    obtain ⟨u, us, rfl, h2, h3⟩ := h
    intro v hv
    rcases List.mem_cons.1 hv with rfl | hv
    · exact (Rep.oneC ho.1 h2).1
    · exact RepL.one ho.2 h3 v hv
/-- The cells of a datum. -/
def cellsD : D → Option (List D)
  | .agg cs => some cs
  | d => if oneD d then some [d] else none
theorem cellsD_rep {M : Nat → Prop} {w : World} {G : Cx} {d : D} {u : Value} {cs : List D} (h : cellsD d = some cs) (hv : Rep M w G d u) : ∃ vs : List Value, u.cells = vs.toArray ∧ RepL M w G cs vs := by
  have key : oneD d = true → cs = [d] → ∃ vs : List Value, u.cells = vs.toArray ∧ RepL M w G cs vs := fun h1 h2 => by
    subst h2
    exact ⟨[u], (Rep.oneC h1 hv).2, by simp only [RepL]; exact ⟨u, [], rfl, hv, rfl⟩⟩
  cases d with
  | agg cs' =>
    simp only [cellsD, Option.some.injEq] at h
    subst h
    simp only [Rep] at hv
    obtain ⟨vs, rfl, h2⟩ := hv
    exact ⟨vs, rfl, h2⟩
  | _ =>
    simp only [cellsD] at h
    split at h
    · rename_i h1
      exact key h1 (by cases h; rfl)
    · cases h
def flats (vs : Array Value) : List D := vs.toList.map .flat
theorem keysOf_flats (vs : Array Value) : keysOf (flats vs) = none := by
  unfold flats
  cases vs.toList <;> rfl
theorem keysOf_one {cs : List D} (h : oneL cs = true) : keysOf cs = none := by
  cases cs with
  | nil => rfl
  | cons d r => cases d <;> first | rfl | (simp [oneL, oneD] at h)
theorem flats_rep {M : Nat → Prop} {w : World} {G : Cx} (vs : Array Value) : RepL M w G (flats vs) vs.toList := by
  unfold flats
  induction vs.toList with
  | nil => simp [RepL]
  | cons v r ih => simp only [List.map_cons, RepL]; exact ⟨v, r, rfl, by simp only [Rep], ih⟩

theorem RepL.append {M : Nat → Prop} {w : World} {G : Cx} : ∀ {ds es : List D} {vs us : List Value}, RepL M w G ds vs → RepL M w G es us → RepL M w G (ds ++ es) (vs ++ us)
  | [], es, vs, us, h, h2 => by simp only [RepL] at h; subst h; simpa using h2
  | d :: ds, es, vs, us, h, h2 => by
    simp only [RepL] at h
    obtain ⟨u, us', rfl, h3, h4⟩ := h
    simp only [List.cons_append, RepL]
    exact ⟨u, us' ++ us, rfl, h3, RepL.append h4 h2⟩
/-- Some cells overwritten. -/
def spliceD {α : Type} (cs : List α) (off : Nat) (ds : List α) : List α := cs.take off ++ ds ++ cs.drop (off + ds.length)
theorem RepL.splice {M : Nat → Prop} {w : World} {G : Cx} {cs ds : List D} {vs us : List Value} {off : Nat} (h : RepL M w G cs vs) (h2 : RepL M w G ds us) : RepL M w G (spliceD cs off ds) (spliceD vs off us) := by
  unfold spliceD
  rw [h2.length]
  exact RepL.append (RepL.append (h.take off) h2) (h.drop _)
theorem keysOf_splice {cs ds : List D} {off : Nat} (h : keysOf cs = none) (ho : oneL ds = true) : keysOf (spliceD cs off ds) = none := by
  unfold spliceD
  cases cs with
  | nil =>
    simp only [List.take_nil, List.nil_append, List.drop_nil, List.append_nil]
    exact keysOf_one ho
  | cons c r =>
    cases off with
    | zero =>
      cases ds with
      | nil => simpa using h
      | cons d ds =>
        simp only [List.take_zero, List.nil_append, List.cons_append]
        cases d <;> first | rfl | (simp [oneL, oneD] at ho)
    | succ off =>
      simp only [List.take_succ_cons, List.cons_append]
      cases c <;> first | rfl | (simp [keysOf] at h)
theorem splice_len {α : Type} {cs ds : List α} {off : Nat} (h : off + ds.length ≤ cs.length) : (spliceD cs off ds).length = cs.length := by
  unfold spliceD; simp; omega
theorem splice_get {α : Type} {cs ds : List α} {off : Nat} (h : off + ds.length ≤ cs.length) (k : Nat) : (spliceD cs off ds)[k]? = if k < off then cs[k]? else if k < off + ds.length then ds[k - off]? else cs[k]? := by
  unfold spliceD
  have hl : (cs.take off).length = off := by simp; omega
  by_cases h1 : k < off
  · rw [if_pos h1, List.append_assoc, List.getElem?_append_left (by omega), List.getElem?_take, if_pos h1]
  · rw [if_neg h1, List.append_assoc, List.getElem?_append_right (by omega), hl]
    by_cases h2 : k < off + ds.length
    · rw [if_pos h2, List.getElem?_append_left (by omega)]
    · rw [if_neg h2, List.getElem?_append_right (by omega), List.getElem?_drop]
      congr 1; omega
theorem foldl_set {α : Type} (off : Nat) : ∀ (us : List α) (cs : Array α) (i : Nat), ((us.zipIdx i).foldl (fun cs (p : α × Nat) => cs.setIfInBounds (off + p.2) p.1) cs).size = cs.size ∧
    ∀ k, ((us.zipIdx i).foldl (fun cs (p : α × Nat) => cs.setIfInBounds (off + p.2) p.1) cs)[k]? = if off + i ≤ k ∧ k < off + i + us.length ∧ k < cs.size then us[k - (off + i)]? else cs[k]?
  | [], cs, i => by simp; intro k h1 h2; omega
  | u :: us, cs, i => by
    obtain ⟨h1, h2⟩ := foldl_set off us (cs.setIfInBounds (off + i) u) (i + 1)
    simp only [List.zipIdx_cons, List.foldl_cons]
    refine ⟨by rw [h1]; simp, fun k => ?_⟩
    rw [h2]
    simp only [Array.size_setIfInBounds, List.length_cons]
    by_cases e : k = off + i
    · subst e
      rw [if_neg (by omega)]
      by_cases hk : off + i < cs.size
      · rw [if_pos (by omega)]; simp [hk]
      · rw [if_neg (by omega)]; simp [hk]
    · by_cases h3 : off + (i + 1) ≤ k ∧ k < off + (i + 1) + us.length ∧ k < cs.size
      · rw [if_pos h3, if_pos (by omega)]
        rw [show k - (off + i) = (k - (off + (i + 1))) + 1 by omega]; simp
      · rw [if_neg h3, if_neg (by omega), Array.getElem?_setIfInBounds, if_neg (fun h => e h.symm)]
theorem foldl_splice {α : Type} (off : Nat) (us : List α) (cs : Array α) (h : off + us.length ≤ cs.size) : (us.toArray.zipIdx.foldl (fun cs (x : α × Nat) => cs.setIfInBounds (off + x.2) x.1) cs).toList = spliceD cs.toList off us := by
  obtain ⟨h1, h2⟩ := foldl_set off us cs 0
  have e : us.toArray.zipIdx.foldl (fun cs (x : α × Nat) => cs.setIfInBounds (off + x.2) x.1) cs = (us.zipIdx 0).foldl (fun cs (p : α × Nat) => cs.setIfInBounds (off + p.2) p.1) cs := by
    rw [← Array.foldl_toList]; simp
  rw [e]
  apply List.ext_getElem?
  intro k
  rw [Array.getElem?_toList, h2, splice_get (by simpa using h)]
  simp only [Nat.add_zero, Array.getElem?_toList]
  by_cases h3 : k < off
  · rw [if_neg (by omega), if_pos h3]
  · rw [if_neg h3]
    by_cases h4 : k < off + us.length
    · rw [if_pos (by omega), if_pos h4]
    · rw [if_neg (by omega), if_neg h4]
/-- Parts laid into cells. -/
def fillD (place : Nat → Option (Nat × Nat)) (cells : List D) : List (Nat × D) → Option (List D)
  | [] => some cells
  | (i, d) :: r => match place i, cellsD d with
    | some (off, size), some cs => if cs.length = size ∧ off + cs.length ≤ cells.length then fillD place (spliceD cells off cs) r else none
    | _, _ => none
def partsF : List (Nat × Operand × D) → List (Nat × D)
  | [] => []
  | (i, _, d) :: r => (i, d) :: partsF r
def partsO : List (Nat × Operand × D) → List (Nat × Operand)
  | [] => []
  | (i, x, _) :: r => (i, x) :: partsO r
def partsE : List (Nat × Operand × D) → List (Operand × D)
  | [] => []
  | (_, x, d) :: r => (x, d) :: partsE r
theorem fill_rep {M : Nat → Prop} {w : World} {G : Cx} {ρ : Operand → Value} {place : Nat → Option (Nat × Nat)} : ∀ {ps : List (Nat × Operand × D)} {cells cs : List D} {vs : List Value}, fillD place cells (partsF ps) = some cs → RepL M w G cells vs → Vals M w G ρ (partsE ps) →
    ∃ us : List Value, Instr.fill place vs.toArray ((partsO ps).map fun (i, x) => (i, ρ x)) = some us.toArray ∧ RepL M w G cs us
  | [], cells, cs, vs, h, hv, _ => by
    simp only [fillD, partsF, Option.some.injEq] at h
    subst h
    exact ⟨vs, rfl, hv⟩
  | (i, x, d) :: r, cells, cs, vs, h, hv, hp => by
    simp only [partsF, fillD] at h
    simp only [partsO, List.map_cons, Instr.fill]
    cases hpl : place i with
    | none => rw [hpl] at h; cases h
    | some q =>
      obtain ⟨off, size⟩ := q
      cases hc : cellsD d with
      | none => rw [hpl, hc] at h; cases h
      | some ds =>
        rw [hpl, hc] at h
        simp only at h
        split at h
        · rename_i hh
          obtain ⟨us, hu, hr⟩ := cellsD_rep hc hp.1
          have hl := hr.length
          have hl2 := hv.length
          obtain ⟨us2, h3, h4⟩ := fill_rep (ρ := ρ) h (RepL.splice (off := off) hv hr) hp.2
          refine ⟨us2, ?_, h4⟩
          have hu' : (ρ x).cells = us.toArray := hu
          dsimp only
          rw [hu', if_neg (by simp; omega)]
          have := foldl_splice off us vs.toArray (by simp; omega)
          rw [show (us.toArray.zipIdx.foldl (fun cs (x : Value × Nat) => cs.setIfInBounds (off + x.2) x.1) vs.toArray) = (spliceD vs off us).toArray from by
            apply Array.toList_inj.1; simpa using this]
          exact h3
        · cases h
end Go.Dm
