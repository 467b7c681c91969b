/- Contracts over data: the copy check of builders. No condition. -/
import Derived.Test.YtohjapcafkhabaaDoorYBK

set_option linter.unusedSimpArgs false
set_option linter.unusedVariables false
set_option maxHeartbeats 4000000
set_option maxRecDepth 8000
namespace Go.Proofs.YtohjapcafkhabaaDoor
open Go Go.RowKit Go.PP Go.Dm Go.Rt Go.Shelf
theorem ref_at {M : Nat → Prop} {w : World} {g : Gh} {σ : Sg} {id off : Nat} {u : Value} (h : Rep M w (some (g, σ)) (.ref id off) u) : u = .pointer (some ⟨g.blk id, off, none⟩) := by
  simp only [Rep] at h
  obtain ⟨g', σ', cs, hG, _, hx⟩ := h
  cases hG
  exact hx
theorem cc_used (bid rid L : Nat) (cs : List D) : DLend Tryd.prog 77 [.ref bid 0] [(bid, some (.box [.ref bid 0, .own rid L])), (rid, some (.row 5 1 L cs))] [(bid, some (.box [.ref bid 0, .own rid L])), (rid, some (.row 5 1 L cs))] (.tup []) := by
  refine ⟨fun M0 g w vals hM hh hv hgl => ?_⟩
  simp only [RepL] at hv
  obtain ⟨u, us, rfl, hu, rfl⟩ := hv
  obtain rfl := ref_at hu
  obtain ⟨vs, o, h1, h2, h3⟩ := hh.ent bid _ (by rw [lkE_cons, if_pos rfl])
  obtain ⟨T, rfl⟩ := h3.cells rfl
  simp only [RepL] at h2
  obtain ⟨p, r, rfl, hp, b, r2, rfl, hb, rfl⟩ := h2
  obtain rfl := ref_at hp
  refine (Any.Builder_copyCheck_used Tryd.laysCc Tryd.extraCc (g.blk bid) w (by simp only [World.cell?, h1]; rfl)).mono fun e w' ⟨q1, q2⟩ => ?_
  subst q2
  exact ⟨.tuple #[], g, q1, Mut.refl _ _, Grow.refl _, hh, fun id b h _ => ⟨id, h⟩, by simp only [Rep, RepL]; exact ⟨[], rfl, rfl⟩⟩
theorem cc_fresh (bid rid : Nat) (hne : bid ≠ rid) : DLend Tryd.prog 77 [.ref bid 0] [(bid, some (.box [.typ 82, .flat (.pointer none), .own rid 0])), (rid, some (.row 5 1 0 []))] [(bid, some (.box [.ref bid 0, .own rid 0])), (rid, some (.row 5 1 0 []))] (.tup []) := by
  refine ⟨fun M0 g w vals hM hh hv hgl => ?_⟩
  simp only [RepL] at hv
  obtain ⟨u, us, rfl, hu, rfl⟩ := hv
  obtain rfl := ref_at hu
  have l1 : lkE [(bid, some (Ent.box [.typ 82, .flat (.pointer none), .own rid 0])), (rid, some (.row 5 1 0 []))] bid = some (Ent.box [.typ 82, .flat (.pointer none), .own rid 0]) := by rw [lkE_cons, if_pos rfl]
  have l2 : lkE [(bid, some (Ent.box [.typ 82, .flat (.pointer none), .own rid 0])), (rid, some (.row 5 1 0 []))] rid = some (.row 5 1 0 []) := by rw [lkE_cons, if_neg hne, lkE_cons, if_pos rfl]
  have k1 : lkE [(bid, some (Ent.box [.ref bid 0, .own rid 0])), (rid, some (.row 5 1 0 []))] bid = some (Ent.box [.ref bid 0, .own rid 0]) := by rw [lkE_cons, if_pos rfl]
  have k2 : lkE [(bid, some (Ent.box [.ref bid 0, .own rid 0])), (rid, some (.row 5 1 0 []))] rid = some (.row 5 1 0 []) := by rw [lkE_cons, if_neg hne, lkE_cons, if_pos rfl]
  obtain ⟨vs, o, h1, h2, h3⟩ := hh.ent bid _ l1
  unfold ObjIs keysOf at h3
  simp only at h3
  subst h3
  simp only [RepL] at h2
  obtain ⟨x, r, rfl, _, p, r1, rfl, hp, b, r2, rfl, hb, rfl⟩ := h2
  simp only [Rep] at hp
  subst hp
  have h1 : w.heap[g.blk bid]? = some (.cells #[.pointer none, b] 82 (0, 0)) := h1
  have hbk : blkOf g [(bid, some (Ent.box [.typ 82, .flat (.pointer none), .own rid 0])), (rid, some (.row 5 1 0 []))] bid = some (g.blk bid) := by unfold blkOf; rw [l1]
  have hblk : ∀ id, blkOf g [(bid, some (Ent.box [.ref bid 0, .own rid 0])), (rid, some (.row 5 1 0 []))] id = blkOf g [(bid, some (Ent.box [.typ 82, .flat (.pointer none), .own rid 0])), (rid, some (.row 5 1 0 []))] id := fun id => by
    unfold blkOf
    simp only [lkE_cons]
    by_cases e1 : bid = id
    · rw [if_pos e1, if_pos e1]
    · rw [if_neg e1, if_neg e1]
  have hlt : g.blk bid < w.heap.size := (Array.getElem?_eq_some_iff.1 h1).1
  refine (Any.Builder_copyCheck_fresh Tryd.laysCc Tryd.extraCc (g.blk bid) w (by simp only [World.cell?, h1]; rfl) (by simp only [World.shape?, h1]; rfl) (by simp only [World.frozen?, h1]; rfl)).mono fun e w' ⟨q1, q2⟩ => ?_
  have hm : Mut (fun k => k = g.blk bid) w w' := by rw [q2]; exact (Mut.refl (fun k => k = g.blk bid) w).setCell (p := ⟨g.blk bid, 0, none⟩) (fun _ => rfl) _
  have hw' : w'.heap[g.blk bid]? = some (.cells #[.pointer (some ⟨g.blk bid, 0, none⟩), b] 82 (0, 0)) := by
    rw [q2]
    simp [World.setCell, Array.getElem?_modify, h1]
  have hgr : Grow (g, [(bid, some (Ent.box [.typ 82, .flat (.pointer none), .own rid 0])), (rid, some (.row 5 1 0 []))]) (g, [(bid, some (Ent.box [.ref bid 0, .own rid 0])), (rid, some (.row 5 1 0 []))]) := by
    refine ⟨fun id cs hc => ?_, fun id e n len cs hc => ?_, fun id hc => ?_⟩
    · simp only [lkE_cons] at hc ⊢
      by_cases e1 : bid = id
      · rw [if_pos e1]; exact ⟨⟨_, rfl⟩, trivial⟩
      · rw [if_neg e1] at hc ⊢; exact ⟨⟨_, hc⟩, trivial⟩
    · simp only [lkE_cons] at hc ⊢
      by_cases e1 : bid = id
      · rw [if_pos e1] at hc; cases hc
      · rw [if_neg e1] at hc ⊢; exact .inr ⟨_, _, _, _, hc, Nat.le_refl _, fun _ => trivial⟩
    · simp only [lkE_cons] at hc ⊢
      by_cases e1 : bid = id
      · rw [if_pos e1] at hc; cases hc
      · rw [if_neg e1] at hc ⊢; exact hc
  have hown : b = g.row rid := by
    simp only [Rep] at hb
    obtain ⟨g', σ', hG, q3, _⟩ := hb
    cases hG
    exact (row_at l2 q3).2 rfl
  refine ⟨.tuple #[], g, q1, hm.mono (fun k _ hk => ⟨bid, by rw [hk]; exact hbk⟩), hgr, ⟨fun id ent hid => ?_, fun id id' b q3 q4 => hh.sep id id' b (by rw [← hblk]; exact q3) (by rw [← hblk]; exact q4), fun id b q3 => ⟨Nat.lt_of_lt_of_le (hh.new id b (by rw [← hblk]; exact q3)).1 hm.size, (hh.new id b (by rw [← hblk]; exact q3)).2⟩⟩, fun id b q3 _ => ⟨id, by rw [← hblk]; exact q3⟩, by simp only [Rep, RepL]; exact ⟨[], rfl, rfl⟩⟩
  by_cases e1 : bid = id
  · subst e1
    rw [k1] at hid
    cases hid
    refine ⟨[.pointer (some ⟨g.blk bid, 0, none⟩), b], _, hw', ?_, ObjIs.mk rfl⟩
    simp only [RepL, Rep]
    exact ⟨_, _, rfl, ⟨g, _, _, rfl, k1, rfl⟩, _, _, rfl, ⟨g, _, rfl, .inr ⟨5, 1, 0, [], k2, Nat.le_refl _, fun _ => hown⟩, by
      simp only [Rep] at hb
      obtain ⟨_, _, _, _, q5⟩ := hb
      exact q5⟩, rfl⟩
  · have hid2 := hid
    rw [lkE_cons, if_neg e1, lkE_cons] at hid2
    by_cases e2 : rid = id
    · subst e2
      rw [if_pos rfl] at hid2
      cases hid2
      obtain ⟨vs, o1, o2⟩ := hh.ent rid _ l2
      refine ⟨vs, o1.mut hm (fun k hk e => ?_), by simp only [RepL] at o2 ⊢; exact o2⟩
      have hb2 : blkOf g [(bid, some (Ent.box [.typ 82, .flat (.pointer none), .own rid 0])), (rid, some (.row 5 1 0 []))] rid = some k := by unfold blkOf; rw [l2]; exact hk
      exact e1 (hh.sep bid rid k (by rw [hbk, e]) hb2)
    · rw [if_neg e2] at hid2
      cases hid2
end Go.Proofs.YtohjapcafkhabaaDoor

set_option linter.unusedSimpArgs false
set_option linter.unusedVariables false
set_option maxHeartbeats 4000000
set_option maxRecDepth 8000
namespace Go.Proofs.YtohjapcafkhabaaDoor
open Go Go.RowKit Go.PP Go.Dm Go.Rt
theorem ccU (l : List UInt8) : DLend Tryd.prog 77 [.ref 3436145868800003 0] [(3436145868800003, some (.box [.ref 3436145868800003 0, .own 3436145868800004 (l).length])), (3436145868800004, some (.row 5 1 (l).length (bD (l))))] [(3436145868800003, some (.box [.ref 3436145868800003 0, .own 3436145868800004 (l).length])), (3436145868800004, some (.row 5 1 (l).length (bD (l))))] (.tup []) := cc_used _ _ _ _
theorem ccF : DLend Tryd.prog 77 [.ref 3436145868800003 0] [(3436145868800003, some (.box [.typ 82, .flat (.pointer none), .own 3436145868800004 0])), (3436145868800004, some (.row 5 1 0 []))] [(3436145868800003, some (.box [.ref 3436145868800003 0, .own 3436145868800004 0])), (3436145868800004, some (.row 5 1 0 []))] (.tup []) := cc_fresh _ _ (by decide +kernel)
theorem ws_used (l s : List UInt8) (h : l.length + s.length ≤ 140737488355328) : DLend Tryd.prog 65 [.ref 3436145868800003 0, strD s] [(3436145868800003, some (.box [.ref 3436145868800003 0, .own 3436145868800004 (l).length])), (3436145868800004, some (.row 5 1 (l).length (bD (l))))] [(3436145868800003, some (.box [.ref 3436145868800003 0, .own 3436145868800004 (l ++ s).length])), (3436145868800004, some (.row 5 1 (l ++ s).length (bD (l ++ s))))] (.tup [.flat (.int .i64 (s.length : Nat)), .flat .nilIface]) := by
  have hc := ccU l
  have e1 : l.length + s.length = (l ++ s).length := List.length_append.symm
  have e2 : bD l ++ bD s = bD (l ++ s) := (bD_append l s).symm
  have e3 := bD_pers l
  have e4 := bD_pers (l ++ s)
  refine DLend.enterA Tryd.func65 Tryd.ntmps65 ?_
  refine DW.walk ?_
  exact ⟨.inr rfl, ResL.twoA⟩
theorem ws_fresh (s : List UInt8) (h : s.length ≤ 140737488355328) : DLend Tryd.prog 65 [.ref 3436145868800003 0, strD s] [(3436145868800003, some (.box [.typ 82, .flat (.pointer none), .own 3436145868800004 0])), (3436145868800004, some (.row 5 1 0 []))] [(3436145868800003, some (.box [.ref 3436145868800003 0, .own 3436145868800004 (s).length])), (3436145868800004, some (.row 5 1 (s).length (bD (s))))] (.tup [.flat (.int .i64 (s.length : Nat)), .flat .nilIface]) := by
  have hc := ccF
  have e1 : 0 + s.length = s.length := Nat.zero_add _
  have e2 : [] ++ bD s = bD s := rfl
  have e4 := bD_pers s
  refine DLend.enterA Tryd.func65 Tryd.ntmps65 ?_
  refine DW.walk ?_
  exact ⟨.inr rfl, ResL.twoA⟩
theorem wb_used (l : List UInt8) (c : UInt8) (h : l.length + 1 ≤ 140737488355328) : DLend Tryd.prog 67 [.ref 3436145868800003 0, .flat (.int .u8 (c.toNat : Nat))] [(3436145868800003, some (.box [.ref 3436145868800003 0, .own 3436145868800004 (l).length])), (3436145868800004, some (.row 5 1 (l).length (bD (l))))] [(3436145868800003, some (.box [.ref 3436145868800003 0, .own 3436145868800004 (l ++ [c]).length])), (3436145868800004, some (.row 5 1 (l ++ [c]).length (bD (l ++ [c]))))] (.flat .nilIface) := by
  have hc := ccU l
  have e1 : l.length + 1 = (l ++ [c]).length := by rw [List.length_append]; rfl
  have e2 : bD l ++ [.flat (.int .u8 (c.toNat : Nat))] = bD (l ++ [c]) := (bD_append l [c]).symm
  have e3 := bD_pers l
  have e4 := bD_pers (l ++ [c])
  refine DLend.enterA Tryd.func67 Tryd.ntmps67 ?_
  refine DW.walk ?_
  exact ⟨.inr rfl, ResL.oneA⟩
theorem st_d (l : List UInt8) (h0 : 0 < l.length) (h : l.length ≤ 140737488355328) : DLend Tryd.prog 45 [.ref 3436145868800003 0] [(3436145868800003, some (.box [.ref 3436145868800003 0, .own 3436145868800004 (l).length])), (3436145868800004, some (.row 5 1 (l).length (bD (l))))] [(3436145868800003, some (.box [.ref 3436145868800003 0, .own 3436145868800004 (l).length])), (3436145868800004, some .dead)] (strD l) := by
  have e3 := bD_pers l
  refine DLend.enterA Tryd.func45 Tryd.ntmps45 ?_
  refine DW.walk ?_
  exact ⟨.inr rfl, ResL.oneA⟩
end Go.Proofs.YtohjapcafkhabaaDoor
