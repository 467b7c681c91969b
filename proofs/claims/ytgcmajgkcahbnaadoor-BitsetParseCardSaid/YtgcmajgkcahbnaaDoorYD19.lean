/- Contracts over data: the reference, Parse: its tests. No condition. -/
import Derived.Test.YtgcmajgkcahbnaaDoorXSl
import Derived.Test.YtgcmajgkcahbnaaDoorYD17

set_option linter.unusedSimpArgs false
set_option linter.unusedVariables false
set_option maxHeartbeats 8000000
set_option maxRecDepth 8000
namespace Go.Proofs.YtgcmajgkcahbnaaDoor
open Go Go.RowKit Go.PP Go.Dm Go.Bs
def RtQ (d : D) : Exit → DS → Prop := fun e s => e = .ret ∧ QF Tryd.prog Tryd.f52 d e s
theorem rr13_0 {cc : Code} (hsel : selC [1, 1, 1, 1, 1, 2, 2, 2, 1, 1, 1] code52 = some cc) (s : List UInt8) (f a k n : Nat) (X : List D) (hs : s.length ≤ 100000) (hk : k ≤ 100000) (hX : persL X = true) (hfa : a = f) (ha : a ≤ s.length) :
    DW Tryd.prog 118 cc ⟨[(0, strD s), (4, .own 17 (k)), (5, .flat (.int .i64 (a : Nat))), (6, .flat (.int .i64 (f : Nat))), (7, .flat (.int .i64 (n : Nat)))], [(17, some (.row 3 1 (k) (X)))]⟩ (RtQ (.tup [intsD [], .flat (.int .i64 3)])) := by
  refine DW.sel hsel (by rfl) ?_
  refine DW.walk ?_
  exact ⟨rfl, .inr rfl, ResOk.two [] rfl rfl rfl trivial (Vw.le (Vw.pers rfl) Le.full) (Vw.pers rfl)⟩
theorem rr13_1 {cc : Code} (hsel : selC [1, 1, 1, 1, 1, 2, 2, 2, 1, 1, 1] code52 = some cc) (s : List UInt8) (f a k n : Nat) (X : List D) (hs : s.length ≤ 100000) (hk : k ≤ 100000) (hX : persL X = true) (b : UInt8) (hfa : f < a) (ha : a ≤ s.length) (h1 : s[((f : Nat) : Int).toNat]? = some b) (hb : (b.toNat : Int) = 48) (h2 : f + 1 < a) :
    DW Tryd.prog 118 cc ⟨[(0, strD s), (4, .own 17 (k)), (5, .flat (.int .i64 (a : Nat))), (6, .flat (.int .i64 (f : Nat))), (7, .flat (.int .i64 (n : Nat)))], [(17, some (.row 3 1 (k) (X)))]⟩ (RtQ (.tup [intsD [], .flat (.int .i64 3)])) := by
  refine DW.sel hsel (by rfl) ?_
  refine DW.walk ?_
  exact ⟨rfl, .inr rfl, ResOk.two [] rfl rfl rfl trivial (Vw.le (Vw.pers rfl) Le.full) (Vw.pers rfl)⟩
theorem rr13_a {cc : Code} (hsel : selC [1, 1, 1, 1, 1, 2, 2, 2, 1, 1, 1, 0] code52 = some cc) (s : List UInt8) (f a k n : Nat) (X : List D) (hs : s.length ≤ 100000) (hk : k ≤ 100000) (hX : persL X = true) (b : UInt8) (hfa : f < a) (ha : a ≤ s.length) (h1 : s[((f : Nat) : Int).toNat]? = some b) (hb : ¬ (b.toNat : Int) = 48) :
    DW Tryd.prog 118 cc ⟨[(0, strD s), (4, .own 17 (k)), (5, .flat (.int .i64 (a : Nat))), (6, .flat (.int .i64 (f : Nat))), (7, .flat (.int .i64 (n : Nat)))], [(17, some (.row 3 1 (k) (X)))]⟩ (Nm 118 ⟨[(0, strD s), (4, .own 17 (k)), (5, .flat (.int .i64 (a : Nat))), (6, .flat (.int .i64 (f : Nat))), (7, .flat (.int .i64 (n : Nat)))], [(17, some (.row 3 1 (k) (X)))]⟩) := by
  refine DW.sel hsel (by rfl) ?_
  refine DW.walk ?_
  exact Nm.mk Sub.auto
theorem rr13_b {cc : Code} (hsel : selC [1, 1, 1, 1, 1, 2, 2, 2, 1, 1, 1, 0] code52 = some cc) (s : List UInt8) (f a k n : Nat) (X : List D) (hs : s.length ≤ 100000) (hk : k ≤ 100000) (hX : persL X = true) (b : UInt8) (hfa : f < a) (ha : a ≤ s.length) (h1 : s[((f : Nat) : Int).toNat]? = some b) (hb : (b.toNat : Int) = 48) (h2 : ¬ f + 1 < a) :
    DW Tryd.prog 118 cc ⟨[(0, strD s), (4, .own 17 (k)), (5, .flat (.int .i64 (a : Nat))), (6, .flat (.int .i64 (f : Nat))), (7, .flat (.int .i64 (n : Nat)))], [(17, some (.row 3 1 (k) (X)))]⟩ (Nm 118 ⟨[(0, strD s), (4, .own 17 (k)), (5, .flat (.int .i64 (a : Nat))), (6, .flat (.int .i64 (f : Nat))), (7, .flat (.int .i64 (n : Nat)))], [(17, some (.row 3 1 (k) (X)))]⟩) := by
  refine DW.sel hsel (by rfl) ?_
  refine DW.walk ?_
  exact Nm.mk Sub.auto
theorem rr15_x {cc : Code} (hsel : selC [1, 1, 1, 1, 1, 2, 2, 2, 1, 1, 1, 1] code52 = some cc) (s : List UInt8) (f a k n : Nat) (X : List D) (hs : s.length ≤ 100000) (hk : k ≤ 100000) (hX : persL X = true) (hn : 1023 < n) :
    DW Tryd.prog 118 cc ⟨[(0, strD s), (4, .own 17 (k)), (5, .flat (.int .i64 (a : Nat))), (6, .flat (.int .i64 (f : Nat))), (7, .flat (.int .i64 (n : Nat)))], [(17, some (.row 3 1 (k) (X)))]⟩ (RtQ (.tup [intsD [], .flat (.int .i64 2)])) := by
  refine DW.sel hsel (by rfl) ?_
  refine DW.walk ?_
  exact ⟨rfl, .inr rfl, ResOk.two [] rfl rfl rfl trivial (Vw.le (Vw.pers rfl) Le.full) (Vw.pers rfl)⟩
theorem rr15_a {cc : Code} (hsel : selC [1, 1, 1, 1, 1, 2, 2, 2, 1, 1, 1, 1, 0] code52 = some cc) (s : List UInt8) (f a k n : Nat) (X : List D) (hs : s.length ≤ 100000) (hk : k ≤ 100000) (hX : persL X = true) (hn : ¬ 1023 < n) :
    DW Tryd.prog 118 cc ⟨[(0, strD s), (4, .own 17 (k)), (5, .flat (.int .i64 (a : Nat))), (6, .flat (.int .i64 (f : Nat))), (7, .flat (.int .i64 (n : Nat)))], [(17, some (.row 3 1 (k) (X)))]⟩ (Nm 118 ⟨[(0, strD s), (4, .own 17 (k)), (5, .flat (.int .i64 (a : Nat))), (6, .flat (.int .i64 (f : Nat))), (7, .flat (.int .i64 (n : Nat)))], [(17, some (.row 3 1 (k) (X)))]⟩) := by
  refine DW.sel hsel (by rfl) ?_
  refine DW.walk ?_
  exact Nm.mk Sub.auto
theorem rr17_x {cc : Code} (hsel : selC [1, 1, 1, 1, 1, 2, 2, 2, 1, 1, 1, 1, 1] code52 = some cc) (s : List UInt8) (f a k n : Nat) (X : List D) (hs : s.length ≤ 100000) (hk : k ≤ 100000) (hX : persL X = true) (l : Int) (hk0 : 0 < k) (h0 : partD false 1 (((k : Int) - 1).toNat * 1) X = some (.flat (.int .i64 l))) (hn : n ≤ l) :
    DW Tryd.prog 118 cc ⟨[(0, strD s), (4, .own 17 (k)), (5, .flat (.int .i64 (a : Nat))), (6, .flat (.int .i64 (f : Nat))), (7, .flat (.int .i64 (n : Nat)))], [(17, some (.row 3 1 (k) (X)))]⟩ (RtQ (.tup [intsD [], .flat (.int .i64 3)])) := by
  refine DW.sel hsel (by rfl) ?_
  refine DW.walk ?_
  exact ⟨rfl, .inr rfl, ResOk.two [] rfl rfl rfl trivial (Vw.le (Vw.pers rfl) Le.full) (Vw.pers rfl)⟩
theorem rr17_a {cc : Code} (hsel : selC [1, 1, 1, 1, 1, 2, 2, 2, 1, 1, 1, 1, 1, 0] code52 = some cc) (s : List UInt8) (f a k n : Nat) (X : List D) (hs : s.length ≤ 100000) (hk : k ≤ 100000) (hX : persL X = true) (l : Int) (hk0 : 0 < k) (h0 : partD false 1 (((k : Int) - 1).toNat * 1) X = some (.flat (.int .i64 l))) (hn : ¬ n ≤ l) :
    DW Tryd.prog 118 cc ⟨[(0, strD s), (4, .own 17 (k)), (5, .flat (.int .i64 (a : Nat))), (6, .flat (.int .i64 (f : Nat))), (7, .flat (.int .i64 (n : Nat)))], [(17, some (.row 3 1 (k) (X)))]⟩ (Nm 118 ⟨[(0, strD s), (4, .own 17 (k)), (5, .flat (.int .i64 (a : Nat))), (6, .flat (.int .i64 (f : Nat))), (7, .flat (.int .i64 (n : Nat)))], [(17, some (.row 3 1 (k) (X)))]⟩) := by
  refine DW.sel hsel (by rfl) ?_
  refine DW.walk ?_
  exact Nm.mk Sub.auto
theorem rr17_b {cc : Code} (hsel : selC [1, 1, 1, 1, 1, 2, 2, 2, 1, 1, 1, 1, 1, 0] code52 = some cc) (s : List UInt8) (f a k n : Nat) (X : List D) (hs : s.length ≤ 100000) (hk : k ≤ 100000) (hX : persL X = true) (hk0 : k = 0) :
    DW Tryd.prog 118 cc ⟨[(0, strD s), (4, .own 17 (k)), (5, .flat (.int .i64 (a : Nat))), (6, .flat (.int .i64 (f : Nat))), (7, .flat (.int .i64 (n : Nat)))], [(17, some (.row 3 1 (k) (X)))]⟩ (Nm 118 ⟨[(0, strD s), (4, .own 17 (k)), (5, .flat (.int .i64 (a : Nat))), (6, .flat (.int .i64 (f : Nat))), (7, .flat (.int .i64 (n : Nat)))], [(17, some (.row 3 1 (k) (X)))]⟩) := by
  refine DW.sel hsel (by rfl) ?_
  refine DW.walk ?_
  exact Nm.mk Sub.auto
end Go.Proofs.YtgcmajgkcahbnaaDoor

set_option linter.unusedSimpArgs false
set_option linter.unusedVariables false
set_option maxHeartbeats 8000000
set_option maxRecDepth 8000
namespace Go.Proofs.YtgcmajgkcahbnaaDoor
open Go Go.RowKit Go.PP Go.Dm Go.Bs
theorem rr20_n {cc : Code} (hsel : selC [1, 1, 1, 1, 1, 2, 2, 2, 1, 1, 1, 1, 1, 1] code52 = some cc) (s : List UInt8) (f a k n : Nat) (X : List D) (hs : s.length ≤ 100000) (hk : k ≤ 100000) (hX : persL X = true) (ha : a < s.length) (b : UInt8) (h1 : s[((a : Nat) : Int).toNat]? = some b) (hb : (b.toNat : Int) = 32) (hp : persL (X ++ [.flat (.int .i64 (n : Nat))]) = true) :
    DW Tryd.prog 118 cc ⟨[(0, strD s), (4, .own 17 (k)), (5, .flat (.int .i64 (a : Nat))), (6, .flat (.int .i64 (f : Nat))), (7, .flat (.int .i64 (n : Nat)))], [(17, some (.row 3 1 (k) (X)))]⟩ (Ex 118 1 ⟨[(0, strD s), (4, .own 17 (k + 1)), (5, .flat (.int .i64 ((a + 1 : Nat) : Int))), (6, .flat (.int .i64 (f : Nat))), (7, .flat (.int .i64 (n : Nat)))], [(17, some (.row 3 1 (k + 1) (X ++ [.flat (.int .i64 (n : Nat))])))]⟩) := by
  refine DW.sel hsel (by rfl) ?_
  refine DW.walk ?_
  exact Ex.mk Sub.auto
theorem rr22_e {cc : Code} (hsel : selC [1, 1, 1, 1, 1, 2, 2, 2, 1, 1, 1, 1, 1, 1] code52 = some cc) (s : List UInt8) (f a k n : Nat) (X : List D) (hs : s.length ≤ 100000) (hk : k ≤ 100000) (hX : persL X = true) (ha : a + 1 = s.length) (b : UInt8) (h1 : s[((a : Nat) : Int).toNat]? = some b) (hb : (b.toNat : Int) = 125) (hp : persL (X ++ [.flat (.int .i64 (n : Nat))]) = true) :
    DW Tryd.prog 118 cc ⟨[(0, strD s), (4, .own 17 (k)), (5, .flat (.int .i64 (a : Nat))), (6, .flat (.int .i64 (f : Nat))), (7, .flat (.int .i64 (n : Nat)))], [(17, some (.row 3 1 (k) (X)))]⟩ (RtQ (.tup [.sl false 1 (k + 1) (X ++ [.flat (.int .i64 (n : Nat))]), .flat (.int .i64 0)])) := by
  refine DW.sel hsel (by rfl) ?_
  refine DW.walk ?_
  exact ⟨rfl, .inr rfl, ResOk.two [(17, some (.row 3 1 (k + 1) (X ++ [.flat (.int .i64 (n : Nat))])))] rfl rfl rfl ⟨rfl, trivial⟩ (Vw.own (.head _) (VwL.pers hp)) (Vw.pers rfl)⟩
theorem rr24_a {cc : Code} (hsel : selC [1, 1, 1, 1, 1, 2, 2, 2, 1, 1, 1, 1, 1, 1] code52 = some cc) (s : List UInt8) (f a k n : Nat) (X : List D) (hs : s.length ≤ 100000) (hk : k ≤ 100000) (hX : persL X = true) (ha : ¬ a < s.length) (ha2 : a ≤ s.length) :
    DW Tryd.prog 118 cc ⟨[(0, strD s), (4, .own 17 (k)), (5, .flat (.int .i64 (a : Nat))), (6, .flat (.int .i64 (f : Nat))), (7, .flat (.int .i64 (n : Nat)))], [(17, some (.row 3 1 (k) (X)))]⟩ (RtQ (.tup [intsD [], .flat (.int .i64 3)])) := by
  refine DW.sel hsel (by rfl) ?_
  refine DW.walk ?_
  exact ⟨rfl, .inr rfl, ResOk.two [] rfl rfl rfl trivial (Vw.le (Vw.pers rfl) Le.full) (Vw.pers rfl)⟩
theorem rr24_b {cc : Code} (hsel : selC [1, 1, 1, 1, 1, 2, 2, 2, 1, 1, 1, 1, 1, 1] code52 = some cc) (s : List UInt8) (f a k n : Nat) (X : List D) (hs : s.length ≤ 100000) (hk : k ≤ 100000) (hX : persL X = true) (ha : a < s.length) (ha2 : ¬ a + 1 = s.length) (b : UInt8) (h1 : s[((a : Nat) : Int).toNat]? = some b) (hb : ¬ (b.toNat : Int) = 32) :
    DW Tryd.prog 118 cc ⟨[(0, strD s), (4, .own 17 (k)), (5, .flat (.int .i64 (a : Nat))), (6, .flat (.int .i64 (f : Nat))), (7, .flat (.int .i64 (n : Nat)))], [(17, some (.row 3 1 (k) (X)))]⟩ (RtQ (.tup [intsD [], .flat (.int .i64 3)])) := by
  refine DW.sel hsel (by rfl) ?_
  refine DW.walk ?_
  exact ⟨rfl, .inr rfl, ResOk.two [] rfl rfl rfl trivial (Vw.le (Vw.pers rfl) Le.full) (Vw.pers rfl)⟩
theorem rr24_c {cc : Code} (hsel : selC [1, 1, 1, 1, 1, 2, 2, 2, 1, 1, 1, 1, 1, 1] code52 = some cc) (s : List UInt8) (f a k n : Nat) (X : List D) (hs : s.length ≤ 100000) (hk : k ≤ 100000) (hX : persL X = true) (ha : a + 1 = s.length) (b : UInt8) (h1 : s[((a : Nat) : Int).toNat]? = some b) (hb : ¬ (b.toNat : Int) = 32) (hb2 : ¬ (b.toNat : Int) = 125) :
    DW Tryd.prog 118 cc ⟨[(0, strD s), (4, .own 17 (k)), (5, .flat (.int .i64 (a : Nat))), (6, .flat (.int .i64 (f : Nat))), (7, .flat (.int .i64 (n : Nat)))], [(17, some (.row 3 1 (k) (X)))]⟩ (RtQ (.tup [intsD [], .flat (.int .i64 3)])) := by
  refine DW.sel hsel (by rfl) ?_
  refine DW.walk ?_
  exact ⟨rfl, .inr rfl, ResOk.two [] rfl rfl rfl trivial (Vw.le (Vw.pers rfl) Le.full) (Vw.pers rfl)⟩
end Go.Proofs.YtgcmajgkcahbnaaDoor
