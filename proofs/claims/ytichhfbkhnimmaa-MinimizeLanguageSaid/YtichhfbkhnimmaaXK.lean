/- A machine over data: nil slices told from empty ones. No condition. -/
import Derived.Test.YtichhfbkhnimmaaXJ
import Derived.Laws.Cover3

set_option linter.unusedSimpArgs false
set_option linter.unusedVariables false
set_option linter.unusedSectionVars false
set_option maxHeartbeats 400000
namespace Go.Dm
open Go Go.RowKit Go.PP
variable [GlobW] [Rnd]
section
variable {P : Program} {N : Nat} {dst : Option Tmp} {ty : TypeId} {pos : String} {af : Array Edge} {gd : Option (Nat × Bool)}
theorem run_eqNil {t e : TypeId} {x : Operand} {a : Option Addr} {l c : Nat} (w : World) (ρ : Operand → Value) (hx : ρ x = .slice a l c) (hn : ρ (.const (.slice none 0 0)) = .slice none 0 0) (ht : P.underlying t = some (.slice e)) (ty' : TypeId) :
    (execOp ρ ⟨dst, .binOp .eql t x (.const (.slice none 0 0)) ty', ty, pos, af, gd⟩).run P w = .ok (.value (.bool a.isNone)) w := by
  simp [execOp, hx, hn, eqGuard, binOp, run_equal_slice_nil w t e a l c ht]
theorem T.eqNilF {t e ty' : TypeId} {a : Option Addr} {l c : Nat} (x : Operand) (ht : P.underlying t = some (.slice e)) :
    Tri P N ⟨dst, .binOp .eql t x (.const (.slice none 0 0)) ty', ty, pos, af, gd⟩ [(x, .flat (.slice a l c)), (.const (.slice none 0 0), .flat (.slice none 0 0))] [] (.flat (.bool a.isNone)) [] := Tri.val fun M w G ρ hv =>
  ⟨_, run_eqNil w ρ hv.one hv.2.one ht ty', by simp only [Rep]⟩
theorem T.eqNilS {t e ty' : TypeId} {f : Bool} {n len : Nat} {cs : List D} (x : Operand) (ht : P.underlying t = some (.slice e)) (hl : 0 < len) (hn : 0 < n) :
    Tri P N ⟨dst, .binOp .eql t x (.const (.slice none 0 0)) ty', ty, pos, af, gd⟩ [(x, .sl f n len cs), (.const (.slice none 0 0), .flat (.slice none 0 0))] [] (.flat (.bool false)) [] := Tri.val fun M w G ρ hv => by
  have q1 := hv.1
  simp only [Rep] at q1
  obtain ⟨a, cap, r1, _, _, _, _, r6⟩ := q1
  rcases r6 with r6 | ⟨b, o, rfl, _⟩
  · have := Nat.mul_pos hl hn; omega
  · exact ⟨_, run_eqNil w ρ r1 hv.2.one ht ty', by simp only [Rep]; rfl⟩
theorem Le.empty {a : Option Addr} {c n : Nat} : Le (.flat (.slice a 0 c)) (.sl false n 0 []) := fun M w G v _ h => by
  simp only [Rep] at h ⊢
  exact ⟨a, c, h, Nat.zero_le _, fun e => (by cases e), by simp, by omega, .inl (by simp)⟩
theorem DW.flatten {Q : Exit → DS → Prop} {c : Code} {f : Fr} {σ : Sg} (t : Nat) {q : Bool} {n : Nat} {cs : List D} (ht : lkF f t = .sl q n 0 cs) (h : ∀ a cap, DW P N c ⟨(t, .flat (.slice a 0 cap)) :: f, σ⟩ Q) : DW P N c ⟨f, σ⟩ Q := by
  refine ⟨fun w0 M0 B0 a w ⟨g, hs⟩ => ?_⟩
  have h1 := hs.tm t
  rw [ht] at h1
  simp only [Rep] at h1
  obtain ⟨ad, cap, r1, _⟩ := h1
  exact (h ad cap).go w0 M0 B0 a w ⟨g, StG.setF hs t _ (by simp only [Rep]; exact r1)⟩
end
theorem T.neqSame {P : Program} {N : Nat} {dst : Option Tmp} {ty : TypeId} {pos : String} {af : Array Edge} {gd : Option (Nat × Bool)} {a : Bool} {t ty' : TypeId} (x y : Operand) (ht : P.underlying t = some .bool) : Tri P N ⟨dst, .binOp .neq t x y ty', ty, pos, af, gd⟩ [(x, .flat (.bool a)), (y, .flat (.bool a))] [] (.flat (.bool false)) [] := Tri.val fun M w G ρ hv => by
  have he : (Op.equal t (.bool a) (.bool a)).run P w = .ok (a == a) w := run_equalIn_bool w _ t a a ht
  exact ⟨.bool false, by simp [execOp, hv.one, hv.2.one, eqGuard, binOp, he], by simp only [Rep]⟩
end Go.Dm
