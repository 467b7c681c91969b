/- A machine over data: words, pointers compared, structs compared, maps. No condition. -/
import Derived.Test.YtjmljmappfhiaaaDoorNY
import Derived.Laws.StructEq
import Derived.Laws.Pointers
import Derived.Maps.Own
set_option linter.unusedSimpArgs false
set_option linter.unusedVariables false
set_option linter.unusedSectionVars false
set_option maxHeartbeats 400000
namespace Go.Dm
open Go Go.RowKit Go.PP
variable [GlobW]

/-! words -/
theorem wrapU (k : IntKind) (h : k.signed = false) (x : Int) : k.wrap x = x % 2 ^ k.bits := by simp [IntKind.wrap, h]
theorem wu32 {x : Int} (h0 : 0 ≤ x) (h : x < 4294967296) : IntKind.u32.wrap x = x := by
  rw [wrapU .u32 rfl]; exact Int.emod_eq_of_lt h0 h
theorem wu64 {x : Int} (h0 : 0 ≤ x) (h : x < 18446744073709551616) : IntKind.u64.wrap x = x := by
  rw [wrapU .u64 rfl]; exact Int.emod_eq_of_lt h0 h
theorem wu8 {x : Int} (h0 : 0 ≤ x) (h : x < 256) : IntKind.u8.wrap x = x := by
  rw [wrapU .u8 rfl]; exact Int.emod_eq_of_lt h0 h
theorem wu16 {x : Int} (h0 : 0 ≤ x) (h : x < 65536) : IntKind.u16.wrap x = x := by
  rw [wrapU .u16 rfl]; exact Int.emod_eq_of_lt h0 h
theorem word_mod {w : Nat} (z : Int) : z % 2 ^ w = ((BitVec.ofInt w z).toNat : Int) := by
  rw [BitVec.toNat_ofInt]
  have : (0 : Int) ≤ z % (2 ^ w : Nat) := Int.emod_nonneg _ (by exact_mod_cast (Nat.pos_iff_ne_zero.1 (Nat.two_pow_pos w)))
  rw [Int.toNat_of_nonneg this]
  push_cast
  rfl
theorem ofInt_nat {w : Nat} (x : BitVec w) : BitVec.ofInt w (x.toNat : Int) = x := by simp
theorem word_wrap (k : IntKind) (h : k.signed = false) (z : Int) : k.wrap z = ((BitVec.ofInt k.bits z).toNat : Int) := by rw [wrapU k h]; exact word_mod z
theorem word_nat (k : IntKind) (h : k.signed = false) (x : BitVec k.bits) : k.wrap (x.toNat : Int) = x.toNat := by
  rw [word_wrap k h, ofInt_nat]
theorem w32_add (x : BitVec 32) (b : Int) : IntKind.u32.wrap ((x.toNat : Int) + b) = ((x + BitVec.ofInt 32 b).toNat : Int) := by
  rw [word_wrap .u32 rfl]; show ((BitVec.ofInt 32 _).toNat : Int) = _; rw [BitVec.ofInt_add, ofInt_nat]
theorem w32_sub (x : BitVec 32) (b : Int) : IntKind.u32.wrap ((x.toNat : Int) - b) = ((x - BitVec.ofInt 32 b).toNat : Int) := by
  rw [word_wrap .u32 rfl]; show ((BitVec.ofInt 32 _).toNat : Int) = _; rw [Int.sub_eq_add_neg, BitVec.ofInt_add, BitVec.ofInt_neg, ofInt_nat, BitVec.sub_eq_add_neg]
theorem w32_mul (x : BitVec 32) (b : Int) : IntKind.u32.wrap ((x.toNat : Int) * b) = ((x * BitVec.ofInt 32 b).toNat : Int) := by
  rw [word_wrap .u32 rfl]; show ((BitVec.ofInt 32 _).toNat : Int) = _; rw [BitVec.ofInt_mul, ofInt_nat]
theorem w64_add (x : BitVec 64) (b : Int) : IntKind.u64.wrap ((x.toNat : Int) + b) = ((x + BitVec.ofInt 64 b).toNat : Int) := by
  rw [word_wrap .u64 rfl]; show ((BitVec.ofInt 64 _).toNat : Int) = _; rw [BitVec.ofInt_add, ofInt_nat]
theorem w64_sub (x : BitVec 64) (b : Int) : IntKind.u64.wrap ((x.toNat : Int) - b) = ((x - BitVec.ofInt 64 b).toNat : Int) := by
  rw [word_wrap .u64 rfl]; show ((BitVec.ofInt 64 _).toNat : Int) = _; rw [Int.sub_eq_add_neg, BitVec.ofInt_add, BitVec.ofInt_neg, ofInt_nat, BitVec.sub_eq_add_neg]
theorem w64_mul (x : BitVec 64) (b : Int) : IntKind.u64.wrap ((x.toNat : Int) * b) = ((x * BitVec.ofInt 64 b).toNat : Int) := by
  rw [word_wrap .u64 rfl]; show ((BitVec.ofInt 64 _).toNat : Int) = _; rw [BitVec.ofInt_mul, ofInt_nat]
/-- Bits of words: of 32, of 64 and of 8 bits, the first known as a word. -/
theorem w32_xor (x : BitVec 32) (b : Int) : IntKind.u32.wrap ((BitVec.ofInt IntKind.u32.bits (x.toNat : Int) ^^^ BitVec.ofInt IntKind.u32.bits b).toNat) = ((x ^^^ BitVec.ofInt 32 b).toNat : Int) := by
  rw [word_nat .u32 rfl]; show ((BitVec.ofInt 32 _ ^^^ BitVec.ofInt 32 _).toNat : Int) = _; rw [ofInt_nat]
theorem w32_and (x : BitVec 32) (b : Int) : IntKind.u32.wrap ((BitVec.ofInt IntKind.u32.bits (x.toNat : Int) &&& BitVec.ofInt IntKind.u32.bits b).toNat) = ((x &&& BitVec.ofInt 32 b).toNat : Int) := by
  rw [word_nat .u32 rfl]; show ((BitVec.ofInt 32 _ &&& BitVec.ofInt 32 _).toNat : Int) = _; rw [ofInt_nat]
theorem w32_or (x : BitVec 32) (b : Int) : IntKind.u32.wrap ((BitVec.ofInt IntKind.u32.bits (x.toNat : Int) ||| BitVec.ofInt IntKind.u32.bits b).toNat) = ((x ||| BitVec.ofInt 32 b).toNat : Int) := by
  rw [word_nat .u32 rfl]; show ((BitVec.ofInt 32 _ ||| BitVec.ofInt 32 _).toNat : Int) = _; rw [ofInt_nat]
theorem w64_xor (x y : BitVec 64) : IntKind.u64.wrap ((BitVec.ofInt IntKind.u64.bits (x.toNat : Int) ^^^ BitVec.ofInt IntKind.u64.bits (y.toNat : Int)).toNat) = ((x ^^^ y).toNat : Int) := by
  rw [word_nat .u64 rfl]; show ((BitVec.ofInt 64 _ ^^^ BitVec.ofInt 64 _).toNat : Int) = _; rw [ofInt_nat, ofInt_nat]
theorem w64_and (x y : BitVec 64) : IntKind.u64.wrap ((BitVec.ofInt IntKind.u64.bits (x.toNat : Int) &&& BitVec.ofInt IntKind.u64.bits (y.toNat : Int)).toNat) = ((x &&& y).toNat : Int) := by
  rw [word_nat .u64 rfl]; show ((BitVec.ofInt 64 _ &&& BitVec.ofInt 64 _).toNat : Int) = _; rw [ofInt_nat, ofInt_nat]
theorem w64_or (x y : BitVec 64) : IntKind.u64.wrap ((BitVec.ofInt IntKind.u64.bits (x.toNat : Int) ||| BitVec.ofInt IntKind.u64.bits (y.toNat : Int)).toNat) = ((x ||| y).toNat : Int) := by
  rw [word_nat .u64 rfl]; show ((BitVec.ofInt 64 _ ||| BitVec.ofInt 64 _).toNat : Int) = _; rw [ofInt_nat, ofInt_nat]
theorem w64_andNot (x y : BitVec 64) : IntKind.u64.wrap ((BitVec.ofInt IntKind.u64.bits (x.toNat : Int) &&& ~~~ BitVec.ofInt IntKind.u64.bits (y.toNat : Int)).toNat) = ((x &&& ~~~ y).toNat : Int) := by
  rw [word_nat .u64 rfl]; show ((BitVec.ofInt 64 _ &&& ~~~ BitVec.ofInt 64 _).toNat : Int) = _; rw [ofInt_nat, ofInt_nat]

theorem quoU64 {a b : Int} (ha : 0 ≤ a) (hb : 0 < b) (h : a < 18446744073709551616) : IntKind.u64.wrap (a.tdiv b) = a / b := by
  rw [Int.tdiv_eq_ediv_of_nonneg ha]
  have h1 : 0 ≤ a / b := Int.ediv_nonneg ha (by omega)
  have h2 : a / b ≤ a := Int.ediv_le_self b ha
  exact wu64 (by omega) (by omega)
theorem quoU32 {a b : Int} (ha : 0 ≤ a) (hb : 0 < b) (h : a < 4294967296) : IntKind.u32.wrap (a.tdiv b) = a / b := by
  rw [Int.tdiv_eq_ediv_of_nonneg ha]
  have h1 : 0 ≤ a / b := Int.ediv_nonneg ha (by omega)
  have h2 : a / b ≤ a := Int.ediv_le_self b ha
  exact wu32 (by omega) (by omega)
theorem remN (a b : Nat) : (a : Int).tmod (b : Int) = ((a % b : Nat) : Int) := rem64 (Int.natCast_nonneg a)
theorem remL (a b : Nat) : (a : Int).tmod (@OfNat.ofNat Int b (@instOfNat b)) = ((a % (@OfNat.ofNat Nat b (instOfNatNat b)) : Nat) : Int) := rem64 (Int.natCast_nonneg a)
theorem quoN64 (a b : Nat) (hb : 0 < b) (h : a ≤ 9223372036854775807) : IntKind.i64.wrap ((a : Int).tdiv (b : Int)) = ((a / b : Nat) : Int) := quo64 (by omega) (by omega) (by omega)
theorem quoL64 (a b : Nat) (hb : 0 < b) (h : a ≤ 9223372036854775807) : IntKind.i64.wrap ((a : Int).tdiv (@OfNat.ofNat Int b (@instOfNat b))) = ((a / (@OfNat.ofNat Nat b (instOfNatNat b)) : Nat) : Int) := quoN64 a b hb h
theorem quoNU64 (a b : Nat) (hb : 0 < b) (h : a < 18446744073709551616) : IntKind.u64.wrap ((a : Int).tdiv (b : Int)) = ((a / b : Nat) : Int) := quoU64 (by omega) (by omega) (by omega)
theorem quoLU64 (a b : Nat) (hb : 0 < b) (h : a < 18446744073709551616) : IntKind.u64.wrap ((a : Int).tdiv (@OfNat.ofNat Int b (@instOfNat b))) = ((a / (@OfNat.ofNat Nat b (instOfNatNat b)) : Nat) : Int) := quoNU64 a b hb h
theorem quoNU32 (a b : Nat) (hb : 0 < b) (h : a < 4294967296) : IntKind.u32.wrap ((a : Int).tdiv (b : Int)) = ((a / b : Nat) : Int) := quoU32 (by omega) (by omega) (by omega)
theorem quoLU32 (a b : Nat) (hb : 0 < b) (h : a < 4294967296) : IntKind.u32.wrap ((a : Int).tdiv (@OfNat.ofNat Int b (@instOfNat b))) = ((a / (@OfNat.ofNat Nat b (instOfNatNat b)) : Nat) : Int) := quoNU32 a b hb h
/-- A number that is one of Nat. -/
structure IsN (z : Int) (n : Nat) : Prop where
  h : z = (n : Int)
theorem IsN.c (n : Nat) : IsN (n : Int) n := ⟨rfl⟩
theorem IsN.l (n : Nat) : IsN (@OfNat.ofNat Int n (@instOfNat n)) (@OfNat.ofNat Nat n (instOfNatNat n)) := ⟨rfl⟩
theorem IsN.add {a b : Int} {m n : Nat} (h : IsN a m) (k : IsN b n) : IsN (a + b) (m + n) := ⟨by rw [h.h, k.h]; rfl⟩
theorem IsN.mul {a b : Int} {m n : Nat} (h : IsN a m) (k : IsN b n) : IsN (a * b) (m * n) := ⟨by rw [h.h, k.h]; rfl⟩
theorem IsN.sub {a b : Int} {m n : Nat} (h : IsN a m) (k : IsN b n) (hl : n ≤ m) : IsN (a - b) (m - n) := ⟨by rw [h.h, k.h]; omega⟩
theorem IsN.toNat {a : Int} (h : 0 ≤ a) : IsN a a.toNat := ⟨by omega⟩
theorem w32_andNot (x y : BitVec 32) : IntKind.u32.wrap ((BitVec.ofInt IntKind.u32.bits (x.toNat : Int) &&& ~~~ BitVec.ofInt IntKind.u32.bits (y.toNat : Int)).toNat) = ((x &&& ~~~ y).toNat : Int) := by
  rw [word_nat .u32 rfl]; show ((BitVec.ofInt 32 _ &&& ~~~ BitVec.ofInt 32 _).toNat : Int) = _; rw [ofInt_nat, ofInt_nat]
theorem w8_xor (x y : UInt8) : IntKind.u8.wrap ((BitVec.ofInt IntKind.u8.bits (x.toNat : Int) ^^^ BitVec.ofInt IntKind.u8.bits (y.toNat : Int)).toNat) = ((x ^^^ y).toNat : Int) := by
  rw [word_nat .u8 rfl]; show ((BitVec.ofInt 8 (x.toBitVec.toNat : Int) ^^^ BitVec.ofInt 8 (y.toBitVec.toNat : Int)).toNat : Int) = _; rw [ofInt_nat, ofInt_nat]; rfl
theorem w8_and (x y : UInt8) : IntKind.u8.wrap ((BitVec.ofInt IntKind.u8.bits (x.toNat : Int) &&& BitVec.ofInt IntKind.u8.bits (y.toNat : Int)).toNat) = ((x &&& y).toNat : Int) := by
  rw [word_nat .u8 rfl]; show ((BitVec.ofInt 8 (x.toBitVec.toNat : Int) &&& BitVec.ofInt 8 (y.toBitVec.toNat : Int)).toNat : Int) = _; rw [ofInt_nat, ofInt_nat]; rfl
theorem w8_or (x y : UInt8) : IntKind.u8.wrap ((BitVec.ofInt IntKind.u8.bits (x.toNat : Int) ||| BitVec.ofInt IntKind.u8.bits (y.toNat : Int)).toNat) = ((x ||| y).toNat : Int) := by
  rw [word_nat .u8 rfl]; show ((BitVec.ofInt 8 (x.toBitVec.toNat : Int) ||| BitVec.ofInt 8 (y.toBitVec.toNat : Int)).toNat : Int) = _; rw [ofInt_nat, ofInt_nat]; rfl
theorem w8_andNot (x y : UInt8) : IntKind.u8.wrap ((BitVec.ofInt IntKind.u8.bits (x.toNat : Int) &&& ~~~ BitVec.ofInt IntKind.u8.bits (y.toNat : Int)).toNat) = ((x &&& ~~~ y).toNat : Int) := by
  rw [word_nat .u8 rfl]; show ((BitVec.ofInt 8 (x.toBitVec.toNat : Int) &&& ~~~ BitVec.ofInt 8 (y.toBitVec.toNat : Int)).toNat : Int) = _; rw [ofInt_nat, ofInt_nat]; rfl
theorem u8_lt (c : UInt8) : c.toNat < 256 := c.toNat_lt
theorem w64_u8 (c : UInt8) : IntKind.i64.wrap (c.toNat : Int) = c.toNat := w64 (by omega) (by have := u8_lt c; omega)
theorem wu64_u8 (c : UInt8) : IntKind.u64.wrap (c.toNat : Int) = c.toNat := wu64 (by omega) (by have := u8_lt c; omega)
theorem wu32_u8 (c : UInt8) : IntKind.u32.wrap (c.toNat : Int) = c.toNat := wu32 (by omega) (by have := u8_lt c; omega)
theorem wu64_32 (x : BitVec 32) : IntKind.u64.wrap (x.toNat : Int) = x.toNat := wu64 (by omega) (by have := x.isLt; omega)
theorem w64_32 (x : BitVec 32) : IntKind.i64.wrap (x.toNat : Int) = x.toNat := w64 (by omega) (by have := x.isLt; omega)
theorem shrN (k : IntKind) (x b : Nat) (h : b ≤ k.bits) : (x : Int).fdiv (2 ^ (min (b : Int).toNat k.bits)) = ((x / 2 ^ b : Nat) : Int) := by
  rw [Int.toNat_natCast, Nat.min_eq_left h, Int.fdiv_eq_ediv_of_nonneg _ (by exact_mod_cast Nat.zero_le _)]
  push_cast; rfl
theorem shl64 (x : BitVec 64) (b : Nat) : IntKind.u64.wrap ((x.toNat : Int) * 2 ^ (min (b : Int).toNat IntKind.u64.bits)) = ((x <<< b).toNat : Int) := by
  rw [word_wrap .u64 rfl]
  show ((BitVec.ofInt 64 _).toNat : Int) = _
  rw [Int.toNat_natCast]
  congr 1
  rw [BitVec.toNat_ofInt, BitVec.toNat_shiftLeft, Nat.shiftLeft_eq]
  show (((x.toNat : Int) * 2 ^ (min b 64)) % ((2 ^ 64 : Nat) : Int)).toNat = _
  have : ((x.toNat : Int) * 2 ^ (min b 64)) = ((x.toNat * 2 ^ (min b 64) : Nat) : Int) := by push_cast; rfl
  rw [this, ← Int.natCast_emod, Int.toNat_natCast]
  rcases Nat.le_total b 64 with h | h
  · rw [Nat.min_eq_left h]
  · rw [Nat.min_eq_right h, Nat.mul_mod_left]
    have : 2 ^ b = 2 ^ (b - 64) * 2 ^ 64 := by rw [← Nat.pow_add]; congr 1; omega
    rw [this, ← Nat.mul_assoc, Nat.mul_mod_left]
theorem shl32 (x : BitVec 32) (b : Nat) : IntKind.u32.wrap ((x.toNat : Int) * 2 ^ (min (b : Int).toNat IntKind.u32.bits)) = ((x <<< b).toNat : Int) := by
  rw [word_wrap .u32 rfl]
  show ((BitVec.ofInt 32 _).toNat : Int) = _
  rw [Int.toNat_natCast]
  congr 1
  rw [BitVec.toNat_ofInt, BitVec.toNat_shiftLeft, Nat.shiftLeft_eq]
  show (((x.toNat : Int) * 2 ^ (min b 32)) % ((2 ^ 32 : Nat) : Int)).toNat = _
  have : ((x.toNat : Int) * 2 ^ (min b 32)) = ((x.toNat * 2 ^ (min b 32) : Nat) : Int) := by push_cast; rfl
  rw [this, ← Int.natCast_emod, Int.toNat_natCast]
  rcases Nat.le_total b 32 with h | h
  · rw [Nat.min_eq_left h]
  · rw [Nat.min_eq_right h, Nat.mul_mod_left]
    have : 2 ^ b = 2 ^ (b - 32) * 2 ^ 32 := by rw [← Nat.pow_add]; congr 1; omega
    rw [this, ← Nat.mul_assoc, Nat.mul_mod_left]

section
variable {P : Program} {N : Nat} {dst : Option Tmp} {ty : TypeId} {pos : String} {af : Array Edge} {gd : Option (Nat × Bool)}

/-! pointers and nil -/
theorem run_ptrEq {t e : TypeId} {a b : Option Addr} (w : World) (ht : P.underlying t = some (.pointer e)) (h : a = none ∨ b = none) : (Op.equal t (.pointer a) (.pointer b)).run P w = .ok (a.isNone && b.isNone) w := by
  unfold Op.equal Op.maxDepth Op.equalIn
  rcases h with rfl | rfl
  · simp [run_underlying ht]
  · cases a <;> simp [run_underlying ht]
/-- What is known of a pointer: nil or not. -/
def isNilD : D → Option Bool
  | .flat (.pointer a) => some a.isNone
  | .ref _ _ => some false
  | .ptr _ _ => some false
  | _ => none
theorem isNilD_rep {M : Nat → Prop} {w : World} {G : Cx} {d : D} {b : Bool} {u : Value} (h : isNilD d = some b) (hr : Rep M w G d u) : ∃ a : Option Addr, u = .pointer a ∧ a.isNone = b := by
  cases d with
  | flat v =>
    simp only [Rep] at hr
    subst hr
    cases u <;> simp [isNilD] at h
    exact ⟨_, rfl, h⟩
  | ref id off => simp [isNilD] at h; simp only [Rep] at hr; obtain ⟨_, _, _, _, _, rfl⟩ := hr; exact ⟨_, rfl, by rw [h]; rfl⟩
  | ptr cs off => simp [isNilD] at h; simp only [Rep] at hr; obtain ⟨_, _, rfl, _⟩ := hr; exact ⟨_, rfl, by rw [h]; rfl⟩
  | _ => simp [isNilD] at h
theorem T.shr' {k k2 : IntKind} {a b : Int} {m n : Nat} (t ty' : TypeId) (x y : Operand) (n1 : IsN a m) (n2 : IsN b n) (h : n ≤ k.bits) : Tri P N ⟨dst, .binOp .shr t x y ty', ty, pos, af, gd⟩ [(x, .flat (.int k a)), (y, .flat (.int k2 b))] [] (.flat (.int k ((m / 2 ^ n : Nat) : Int))) [] := by
  obtain ⟨rfl⟩ := n1; obtain ⟨rfl⟩ := n2
  exact T.shr t ty' x y (by omega) (shrN k m n h)
theorem T.strHL' {l : List UInt8} {k k2 : IntKind} {lo hi : Int} {a b : Nat} (t : TypeId) (x y z : Operand) (ht : P.underlying t = some .string) (n1 : IsN lo a) (n2 : IsN hi b) (h1 : a ≤ b) (h2 : b ≤ l.length) :
    Tri P N ⟨dst, .slice t x (some y) (some z) none, ty, pos, af, gd⟩ [(x, .flat (.string ⟨l.toArray⟩)), (y, .flat (.int k lo)), (z, .flat (.int k2 hi))] [] (.flat (.string ⟨((l.take b).drop a).toArray⟩)) [] := by
  obtain ⟨rfl⟩ := n1; obtain ⟨rfl⟩ := n2
  exact T.strHL t x y z ht h1 h2
theorem T.strH' {l : List UInt8} {k2 : IntKind} {hi : Int} {b : Nat} (t : TypeId) (x z : Operand) (ht : P.underlying t = some .string) (n2 : IsN hi b) (h2 : b ≤ l.length) :
    Tri P N ⟨dst, .slice t x none (some z) none, ty, pos, af, gd⟩ [(x, .flat (.string ⟨l.toArray⟩)), (z, .flat (.int k2 hi))] [] (.flat (.string ⟨(l.take b).toArray⟩)) [] := by
  obtain ⟨rfl⟩ := n2
  exact T.strH t x z ht h2
theorem T.strL' {l : List UInt8} {k : IntKind} {lo : Int} {a : Nat} (t : TypeId) (x y : Operand) (ht : P.underlying t = some .string) (n1 : IsN lo a) (h2 : a ≤ l.length) :
    Tri P N ⟨dst, .slice t x (some y) none none, ty, pos, af, gd⟩ [(x, .flat (.string ⟨l.toArray⟩)), (y, .flat (.int k lo))] [] (.flat (.string ⟨(l.drop a).toArray⟩)) [] := by
  obtain ⟨rfl⟩ := n1
  exact T.strL t x y ht h2
theorem T.cutH' {f : Bool} {n len e : Nat} {hi : Int} {h : Nat} {k : IntKind} {cs : List D} (t : TypeId) (x y : Operand) (ht : P.underlying t = some (.slice e)) (hn : sizeOfT P e = some n) (n1 : IsN hi h) (h2 : h ≤ len) :
    Tri P N ⟨dst, .slice t x none (some y) none, ty, pos, af, gd⟩ [(x, .sl f n len cs), (y, .flat (.int k hi))] [] (.sl false n h (cs.take (h * n))) [] := by
  obtain ⟨rfl⟩ := n1
  exact T.cutH t x y ht hn h2
theorem T.cutL' {f : Bool} {n len e : Nat} {lo : Int} {l : Nat} {k : IntKind} {cs : List D} (t : TypeId) (x y : Operand) (ht : P.underlying t = some (.slice e)) (hn : sizeOfT P e = some n) (n1 : IsN lo l) (h2 : l ≤ len) :
    Tri P N ⟨dst, .slice t x (some y) none none, ty, pos, af, gd⟩ [(x, .sl f n len cs), (y, .flat (.int k lo))] [] (.sl false n (len - l) (cs.drop (l * n))) [] := by
  obtain ⟨rfl⟩ := n1
  exact T.cutL t x y ht hn h2
/-- A call that reads a row of the caller's own. -/
theorem T.callOwn1 {k id e n L : Nat} {ts : Array TypeId} {cs : List D} {d : D} (x : Operand) (he : Enters P k) (hf : DFun P k [.sl false n L cs] d) (hp : persL cs = true) (hd : noMem d = true) :
    Tri P N ⟨dst, .call { callee := .value (.func k), args := #[x], argTypes := ts }, ty, pos, af, gd⟩ [(x, .own id L)] [(id, some (.row e n L cs))] d [] :=
  T.callV (ar := [x]) (ds' := [.own id L]) [(id, some (.row e n L cs))] he hf rfl (VwL.cons (Vw.own (List.mem_cons_self ..) (VwL.pers hp)) VwL.nil) hd
theorem T.eqlPtr {t e ty' : TypeId} {x y : Operand} {d1 d2 : D} {a b : Bool} (ht : P.underlying t = some (.pointer e)) (h1 : isNilD d1 = some a) (h2 : isNilD d2 = some b) (h : (a || b) = true) :
    Tri P N ⟨dst, .binOp .eql t x y ty', ty, pos, af, gd⟩ [(x, d1), (y, d2)] [] (.flat (.bool (a && b))) [] := Tri.val fun M w G ρ hv => by
  obtain ⟨p, hp, rfl⟩ := isNilD_rep h1 hv.1
  obtain ⟨q, hq, rfl⟩ := isNilD_rep h2 hv.2.1
  have hp : ρ x = .pointer p := hp
  have hq : ρ y = .pointer q := hq
  refine ⟨.bool (p.isNone && q.isNone), ?_, by simp only [Rep]⟩
  have := run_ptrEq (P := P) (a := p) (b := q) w ht (by cases p <;> cases q <;> simp at h ⊢)
  have h3 : (binOp .eql t (.pointer p) (.pointer q)).run P w = .ok (.bool (p.isNone && q.isNone)) w := by
    show (do pure (.bool (← Op.equal t (.pointer p) (.pointer q))) : Sem Value).run P w = _
    simp only [Sem.run_bind, this, Result.andThen_ok, Sem.run_pure]
  have h4 : ∀ op : BinOp, (eqGuard op t x y (.pointer p) (.pointer q)).run P w = .ok () w := fun op => by cases op <;> rfl
  simp only [execOp, hp, hq, Sem.run_bind, h4, Result.andThen_ok]
  rw [h3]
  simp only [Result.andThen_ok, Sem.run_pure]
theorem T.neqPtr {t e ty' : TypeId} {x y : Operand} {d1 d2 : D} {a b : Bool} (ht : P.underlying t = some (.pointer e)) (h1 : isNilD d1 = some a) (h2 : isNilD d2 = some b) (h : (a || b) = true) :
    Tri P N ⟨dst, .binOp .neq t x y ty', ty, pos, af, gd⟩ [(x, d1), (y, d2)] [] (.flat (.bool (!(a && b)))) [] := Tri.val fun M w G ρ hv => by
  obtain ⟨p, hp, rfl⟩ := isNilD_rep h1 hv.1
  obtain ⟨q, hq, rfl⟩ := isNilD_rep h2 hv.2.1
  have hp : ρ x = .pointer p := hp
  have hq : ρ y = .pointer q := hq
  refine ⟨.bool (!(p.isNone && q.isNone)), ?_, by simp only [Rep]⟩
  have := run_ptrEq (P := P) (a := p) (b := q) w ht (by cases p <;> cases q <;> simp at h ⊢)
  have h3 : (binOp .neq t (.pointer p) (.pointer q)).run P w = .ok (.bool (!(p.isNone && q.isNone))) w := by
    show (do pure (.bool (!(← Op.equal t (.pointer p) (.pointer q)))) : Sem Value).run P w = _
    simp only [Sem.run_bind, this, Result.andThen_ok, Sem.run_pure]
  have h4 : ∀ op : BinOp, (eqGuard op t x y (.pointer p) (.pointer q)).run P w = .ok () w := fun op => by cases op <;> rfl
  simp only [execOp, hp, hq, Sem.run_bind, h4, Result.andThen_ok]
  rw [h3]
  simp only [Result.andThen_ok, Sem.run_pure]
theorem T.nilCheck {d : D} (x : Operand) (h : isNilD d = some false) : Tri P N ⟨dst, .nilCheck x, ty, pos, af, gd⟩ [(x, d)] [] d [] := Tri.val fun M w G ρ hv => by
  obtain ⟨p, hp, h2⟩ := isNilD_rep h hv.1
  have hp : ρ x = .pointer p := hp
  cases p with
  | none => cases h2
  | some a =>
    refine ⟨.pointer (some a), by simp only [execOp, hp, Sem.run_pure], ?_⟩
    have := hv.1
    rw [hp] at this
    exact this

/-! structs of two strings -/
class TySS (P : Program) (t : TypeId) : Prop where
  ht : P.underlying t = some (.struct (P.fieldsOf t))
  hp : P.stoodInHeld t = false
  hg : P.eqGuardType P.depth t = false
  hf : ∃ f1 f2 : Field, (P.fieldsOf t).toList = [f1, f2] ∧ f1.name ≠ "_" ∧ f2.name ≠ "_" ∧ f1.offset = 0 ∧ f2.offset = 1 ∧ P.underlying f1.type = some .string ∧ P.underlying f2.type = some .string
theorem run_eqSS {t : TypeId} (h : TySS P t) (w : World) (a b c d : List UInt8) : (Op.equalIn 10000 t (.agg #[strV a, strV b]) (.agg #[strV c, strV d])).run P w = .ok (decide (a = c) && decide (b = d)) w := by
  obtain ⟨f1, f2, h1, n1, n2, o1, o2, u1, u2⟩ := h.hf
  have ag : ∀ f : Field, P.underlying f.type = some .string → aggOf P f.type = some false := fun f hf => by unfold aggOf; rw [hf]; rfl
  have hpart : ∀ (f : Field) (cs : Array Value) (v : Value), P.underlying f.type = some .string → cs[f.offset]? = some v → (part f.type cs f.offset).run P w = .ok v w := fun f cs v hf hc => by
    simp only [part, Sem.run_bind, run_isAgg (ag f hf), Result.andThen_ok, Bool.false_eq_true, if_false, hc, Sem.run_pure]
  rw [run_equalIn_struct w 9999 t _ _ h.ht h.hp, h1]
  simp only [Op.eqFields, n1, n2, ne_eq, not_false_eq_true, if_true, Sem.run_bind]
  rw [hpart f1 _ (strV a) u1 (by rw [o1]; rfl)]
  simp only [Result.andThen_ok]
  rw [hpart f1 _ (strV c) u1 (by rw [o1]; rfl)]
  simp only [Result.andThen_ok]
  rw [run_equalIn_string w 9998 _ _ _ u1]
  simp only [Result.andThen_ok, str_beq]
  by_cases hac : a = c
  · subst hac
    simp only [decide_true, Bool.not_true, Bool.false_eq_true, if_false, Sem.run_bind]
    rw [hpart f2 _ (strV b) u2 (by rw [o2]; rfl)]
    simp only [Result.andThen_ok]
    rw [hpart f2 _ (strV d) u2 (by rw [o2]; rfl)]
    simp only [Result.andThen_ok]
    rw [run_equalIn_string w 9998 _ _ _ u2]
    simp only [Result.andThen_ok, str_beq]
    by_cases hbd : b = d
    · subst hbd; simp
    · simp [hbd]
  · simp [hac]
theorem ss_rep {M : Nat → Prop} {w : World} {G : Cx} {a b : List UInt8} {u : Value} (h : Rep M w G (.agg [.flat (.string ⟨a.toArray⟩), .flat (.string ⟨b.toArray⟩)]) u) : u = .agg #[strV a, strV b] := by
  simp only [Rep, RepL] at h
  obtain ⟨vs, rfl, u1, us, rfl, rfl, u2, us2, rfl, rfl, rfl⟩ := h
  rfl
theorem T.eqlSS {t ty' : TypeId} {x y : Operand} {a b c d : List UInt8} (h : TySS P t) :
    Tri P N ⟨dst, .binOp .eql t x y ty', ty, pos, af, gd⟩ [(x, .agg [.flat (.string ⟨a.toArray⟩), .flat (.string ⟨b.toArray⟩)]), (y, .agg [.flat (.string ⟨c.toArray⟩), .flat (.string ⟨d.toArray⟩)])] [] (.flat (.bool (decide (a = c) && decide (b = d)))) [] := Tri.val fun M w G ρ hv => by
  have hp : ρ x = _ := ss_rep hv.1
  have hq : ρ y = _ := ss_rep hv.2.1
  refine ⟨.bool (decide (a = c) && decide (b = d)), ?_, by simp only [Rep]⟩
  simp only [execOp, hp, hq, Sem.run_bind, run_eqGuard_agg w .eql t x y _ _ h.hg, Result.andThen_ok, run_eql_struct, run_eqSS h, Sem.run_pure]
theorem T.neqSS {t ty' : TypeId} {x y : Operand} {a b c d : List UInt8} (h : TySS P t) :
    Tri P N ⟨dst, .binOp .neq t x y ty', ty, pos, af, gd⟩ [(x, .agg [.flat (.string ⟨a.toArray⟩), .flat (.string ⟨b.toArray⟩)]), (y, .agg [.flat (.string ⟨c.toArray⟩), .flat (.string ⟨d.toArray⟩)])] [] (.flat (.bool (!(decide (a = c) && decide (b = d))))) [] := Tri.val fun M w G ρ hv => by
  have hp : ρ x = _ := ss_rep hv.1
  have hq : ρ y = _ := ss_rep hv.2.1
  refine ⟨.bool (!(decide (a = c) && decide (b = d))), ?_, by simp only [Rep]⟩
  simp only [execOp, hp, hq, Sem.run_bind, run_eqGuard_agg w .neq t x y _ _ h.hg, Result.andThen_ok, run_neq_struct, run_eqSS h, Sem.run_pure]
end
end Go.Dm
