/- Contracts over data: decimal digits, by the reference. No condition. -/
import Derived.Test.YtohjapcafkhabaaDoorYP9
import Derived.Test.YtohjapcafkhabaaDoorYB3

set_option linter.unusedSimpArgs false
set_option linter.unusedVariables false
set_option maxHeartbeats 4000000
set_option maxRecDepth 8000
namespace Go.Proofs.YtohjapcafkhabaaDoor
open Go Go.RowKit Go.PP Go.Dm Go.Rt
theorem dec_small {u : Nat} (h : u < 10) : Lib.decDigits u = [UInt8.ofNat (48 + u)] := by rw [Lib.decDigits, dif_pos h]
theorem dec_big {u : Nat} (h : ¬ u < 10) : Lib.decDigits u = Lib.decDigits (u / 10) ++ [UInt8.ofNat (48 + u % 10)] := by rw [Lib.decDigits, dif_neg h]
theorem bD_dig {m : Nat} (h : m < 10) : [D.flat (.int .u8 (48 + (m : Int)))] = bD [UInt8.ofNat (48 + m)] := by
  have e : (UInt8.ofNat (48 + m)).toNat = 48 + m := by rw [UInt8.toNat_ofNat', Nat.mod_eq_of_lt (by omega)]
  show _ = [D.flat (.int .u8 ((UInt8.ofNat (48 + m)).toNat : Int))]
  rw [e]
  rfl
theorem bSl1 {P : Program} {N : Nat} {dst : Option Tmp} {ty : TypeId} {pos : String} {af : Array Edge} {gd : Option (Nat × Bool)} {e : Nat} {z : Value} {a : Value} (t : TypeId) (x : Operand) (ht : P.underlying t = some (.slice e)) (hz : zeroT P e = some z) (hn : sizeOfT P e = some 1) (h1 : cellsD (.flat a) = some [.flat a]) :
    Tri P N ⟨dst, .buildSlice t 1 #[(0, x)], ty, pos, af, gd⟩ [(x, .flat a)] [] (.sl true 1 1 [.flat a]) [] :=
  T.buildSl t [(0, x, .flat a)] ht hz hn (by omega) (by omega) (fun base hb => by
    match base, hb with
    | [x], _ => simp [fillD, partsF, h1, spliceD]) (by simp [persL, Dm.pers]) rfl
theorem dec_len19 {m : Nat} (h : m ≤ 9223372036854775807) : (Lib.decDigits m).length ≤ 19 := by
  obtain ⟨⟨h1, h2, h3⟩, h4, h5⟩ := dig_ok m
  by_cases hm : 1 ≤ m
  · have h6 := valN_low _ h2 h1 (h5 hm)
    rw [h4] at h6
    by_cases hl : (Lib.decDigits m).length ≤ 19
    · exact hl
    · have : 10 ^ 19 ≤ 10 ^ ((Lib.decDigits m).length - 1) := Nat.pow_le_pow_right (by decide) (by omega)
      omega
  · obtain rfl : m = 0 := by omega
    decide +kernel
theorem num46_nat : ∀ (n m : Nat), m ≤ n → m ≤ 9223372036854775807 → DFun Tryd.prog 46 [.flat (.int .i64 (m : Nat))] (strD (Lib.decDigits m)) := by
  intro n
  induction n with
  | zero =>
    intro m hm _
    have h : m < 10 := by omega
    have hd := bD_dig h
    rw [dec_small h]
    refine DFun.enterA Tryd.func46 Tryd.ntmps46 ?_
    refine DW.walk ?_
    exact ⟨.inr rfl, ResOk.one [] rfl rfl trivial (Vw.pers rfl)⟩
  | succ n ih =>
    intro m hm hb
    by_cases h : m < 10
    · have hd := bD_dig h
      rw [dec_small h]
      refine DFun.enterA Tryd.func46 Tryd.ntmps46 ?_
      refine DW.walk ?_
      exact ⟨.inr rfl, ResOk.one [] rfl rfl trivial (Vw.pers rfl)⟩
    · rw [dec_big h]
      have hd := bD_dig (m := m % 10) (by omega)
      have ih := ih (m / 10) (by omega) (by omega)
      have hln := dec_len19 (m := m / 10) (by omega)
      generalize Lib.decDigits (m / 10) = dd at *
      refine DFun.enterA Tryd.func46 Tryd.ntmps46 ?_
      refine DW.walk ?_
      have hq : m % 10 < 10 := Nat.mod_lt _ (by decide)
      generalize m % 10 = q at *
      refine DC.walk ?_
      exact ⟨.inr rfl, ResOk.one [] rfl rfl trivial (Vw.pers rfl)⟩
end Go.Proofs.YtohjapcafkhabaaDoor

set_option linter.unusedSimpArgs false
set_option linter.unusedVariables false
set_option maxHeartbeats 4000000
set_option maxRecDepth 8000
namespace Go.Proofs.YtohjapcafkhabaaDoor
open Go Go.RowKit Go.PP Go.Dm Go.Rt
theorem bD_neg {m : Nat} (h : m < 10) : [D.flat (.int .u8 (48 - -(m : Int)))] = bD [UInt8.ofNat (48 + m)] := by
  rw [← bD_dig h]
  congr 4
  omega
theorem num46_neg (m : Nat) (h1 : 1 ≤ m) (hb : m ≤ 9223372036854775808) : DFun Tryd.prog 46 [.flat (.int .i64 (-(m : Int)))] (strD (45 :: Lib.decDigits m)) := by
  have q1 : IntKind.i64.wrap ((-(m : Int)).tdiv 10) = -((m / 10 : Nat) : Int) := by
    rw [IntKind.wrap_i64, Int.neg_tdiv]
    have : ((m : Int)).tdiv 10 = ((m / 10 : Nat) : Int) := by rw [Int.tdiv_eq_ediv_of_nonneg (by omega)]; omega
    rw [this]; omega
  have q2 : (-(m : Int)).tmod 10 = -((m % 10 : Nat) : Int) := by
    rw [Int.neg_tmod]
    have : ((m : Int)).tmod 10 = ((m % 10 : Nat) : Int) := by rw [Int.tmod_eq_emod_of_nonneg (by omega)]; omega
    rw [this]
  have hr : m % 10 < 10 := Nat.mod_lt _ (by decide)
  have hd := bD_neg hr
  have hln := dec_len19 (m := m / 10) (by omega)
  by_cases h : m < 10
  · have e : Lib.decDigits m = [UInt8.ofNat (48 + m % 10)] := by rw [dec_small h, Nat.mod_eq_of_lt h]
    rw [e]
    have hz : m / 10 = 0 := by omega
    generalize m % 10 = r at *
    generalize m / 10 = q at *
    subst hz
    refine DFun.enterA Tryd.func46 Tryd.ntmps46 ?_
    refine DW.walk ?_
    exact ⟨.inr rfl, ResOk.one [] rfl rfl trivial (Vw.pers rfl)⟩
  · rw [dec_big h]
    have ih := num46_nat _ (m / 10) (Nat.le_refl _) (by omega)
    have ih : DFun Tryd.prog 46 [.flat (.int .i64 (0 - -((m / 10 : Nat) : Int)))] (strD (Lib.decDigits (m / 10))) := by rw [show (0 - -((m / 10 : Nat) : Int)) = ((m / 10 : Nat) : Int) by omega]; exact ih
    have hz : 1 ≤ m / 10 := by omega
    have hz2 : m / 10 ≤ 922337203685477580 := by omega
    generalize Lib.decDigits (m / 10) = dd at *
    generalize m % 10 = r at *
    generalize m / 10 = q at *
    refine DFun.enterA Tryd.func46 Tryd.ntmps46 ?_
    refine DW.walk ?_
    exact ⟨.inr rfl, ResOk.one [] rfl rfl trivial (Vw.pers rfl)⟩
theorem num46_d (z : Int) (h1 : -9223372036854775808 ≤ z) (h2 : z ≤ 9223372036854775807) : DFun Tryd.prog 46 [.flat (.int .i64 z)] (strD (Lib.itoa z)) := by
  unfold Lib.itoa
  by_cases h : z < 0
  · rw [if_pos h]
    obtain ⟨m, rfl⟩ : ∃ m : Nat, z = -(m : Int) := ⟨z.natAbs, by omega⟩
    rw [show (-(m : Int)).natAbs = m by omega]
    exact num46_neg m (by omega) (by omega)
  · rw [if_neg h]
    obtain ⟨m, rfl⟩ : ∃ m : Nat, z = (m : Int) := ⟨z.toNat, by omega⟩
    rw [Int.toNat_natCast]
    exact num46_nat _ m (Nat.le_refl _) (by omega)
end Go.Proofs.YtohjapcafkhabaaDoor

set_option linter.unusedSimpArgs false
set_option linter.unusedVariables false
set_option maxHeartbeats 4000000
set_option maxRecDepth 8000
namespace Go.Proofs.YtohjapcafkhabaaDoor
open Go Go.RowKit Go.PP Go.Dm Go.Rt
theorem rtext_d : ∀ (n : Nat) (t : Tr), depT t ≤ n → TSm t → SymR t → (textT Lib.itoa t).length ≤ 9223372036854775807 → DFun Tryd.prog 17 [treeD t] (strD (textT Lib.itoa t))
  | 0, .node s l, h, _, _, _ => by rw [depT_node] at h; omega
  | n + 1, .node s l, h, hs, hr, hX => by
    have hrs := (SymR_node.1 hr).1
    have hrl := (SymR_node.1 hr).2
    rw [depT_node] at h
    rw [TSm_node] at hs
    have ih := fun (k : Tr) (hk : depT k ≤ depL l) => rtext_d n k (by omega)
    have hs1 := hs.1
    have hit := num46_d s hrs.1 hrs.2
    rw [treeD_node]
    rw [textT_node] at hX ⊢
    generalize hI : Lib.itoa s = I at *
    refine DFun.enterA Tryd.func17 Tryd.ntmps17 ?_
    refine DW.walk ?_
    refine DW.loopA (fun p : Nat × List UInt8 => ⟨[(1, .ref 1 0), (3, strD p.2), (4, .flat (.int .i64 (p.1 : Nat)))], [(1, some (.box [.flat (.int .i64 s), .sl false 2 l.length (kidsC l)]))]⟩) (fun p => p.1 ≤ l.length ∧ p.2 ++ textL Lib.itoa (if p.1 = 0 then 40 else 44) (l.drop p.1) = I ++ textL Lib.itoa 40 l) (fun p => l.length - p.1) (0, I) ?_ ⟨Nat.zero_le _, rfl⟩
    rintro ⟨i, acc⟩ ⟨hi, hc⟩
    have hi : i ≤ l.length := hi
    have hc : acc ++ textL Lib.itoa (if i = 0 then 40 else 44) (l.drop i) = I ++ textL Lib.itoa 40 l := hc
    clear hit
    rcases Nat.lt_or_ge i l.length with hlt | hge
    · obtain ⟨k, hk⟩ : ∃ k, l[i]? = some k := ⟨_, List.getElem?_eq_getElem hlt⟩
      have hp := part_kids hk
      have hln : l ≠ [] := fun e => by rw [e] at hlt; exact absurd hlt (Nat.not_lt_zero _)
      rw [if_neg hln] at hX
      have ihk := ih k (depL_at hk) (TSmL.at hs.2 hk) (SymRL.at hrl hk)
      rw [drop_at hk, textL_cons] at hc
      have hXl : (acc ++ (if i = 0 then 40 else 44) :: textT Lib.itoa k ++ textL Lib.itoa 44 (l.drop (i + 1))).length ≤ 9223372036854775807 := by
        have e : acc ++ (if i = 0 then 40 else 44) :: textT Lib.itoa k ++ textL Lib.itoa 44 (l.drop (i + 1)) = I ++ textL Lib.itoa 40 l := by rw [← hc]; simp
        rw [e]
        simp only [List.length_append] at hX ⊢
        omega
      have hn : (acc ++ [if i = 0 then 40 else 44] ++ textT Lib.itoa k) ++ textL Lib.itoa (if i + 1 = 0 then 40 else 44) (l.drop (i + 1)) = I ++ textL Lib.itoa 40 l := by
        rw [if_neg (show ¬ (i + 1 = 0) by omega), ← hc]
        simp
      simp only [List.length_append, List.length_cons] at hXl
      have ihk := ihk (by omega)
      clear ih hk hs hrl hr hX hc hln h hI
      by_cases h0 : i = 0
      · rw [if_pos h0] at hn
        have hn : (acc ++ [40] ++ textT Lib.itoa k) ++ textL Lib.itoa (if i + 1 = 0 then 40 else 44) (l.drop (i + 1)) = I ++ textL Lib.itoa 40 l := hn
        have hXl : acc.length + 1 + (textT Lib.itoa k).length ≤ 9223372036854775807 := by omega
        generalize textT Lib.itoa k = T1 at *
        obtain ⟨s1, l1⟩ := k
        rw [treeD_node] at hp ihk
        refine DW.walk ?_
        exact ⟨(i + 1, acc ++ [40] ++ T1), ⟨by show i + 1 ≤ _; omega, hn⟩, by show l.length - (i + 1) < l.length - i; omega, Sub.auto⟩
      · rw [if_neg h0] at hn
        have hn : (acc ++ [44] ++ textT Lib.itoa k) ++ textL Lib.itoa (if i + 1 = 0 then 40 else 44) (l.drop (i + 1)) = I ++ textL Lib.itoa 40 l := hn
        have hXl : acc.length + 1 + (textT Lib.itoa k).length ≤ 9223372036854775807 := by omega
        generalize textT Lib.itoa k = T1 at *
        obtain ⟨s1, l1⟩ := k
        rw [treeD_node] at hp ihk
        refine DW.walk ?_
        exact ⟨(i + 1, acc ++ [44] ++ T1), ⟨by show i + 1 ≤ _; omega, hn⟩, by show l.length - (i + 1) < l.length - i; omega, Sub.auto⟩
    · obtain rfl : i = l.length := by omega
      rw [List.drop_of_length_le (Nat.le_refl _), textL_nil, List.append_nil] at hc
      clear ih hs hrl hr h 
      by_cases h0 : l = []
      · rw [if_pos h0, List.append_nil] at hX ⊢
        have hl0 : l.length = 0 := by rw [h0]; rfl
        have hc2 : acc = I := by
          rw [hc]
          subst h0
          rw [textL_nil, List.append_nil]
        rw [← hc2]
        clear hX hc hI hc2 h0
        refine DW.walk ?_
        exact ⟨.inr rfl, ResOk.one [] rfl rfl trivial (Vw.pers rfl)⟩
      · rw [if_neg h0] at hX ⊢
        have hl0 : 0 < l.length := List.length_pos_iff.2 h0
        have hc2 : acc ++ [41] = I ++ (textL Lib.itoa 40 l ++ [41]) := by rw [hc]; simp
        rw [← hc2] at hX ⊢
        rw [List.length_append] at hX
        clear hc hI hc2 h0
        refine DW.walk ?_
        exact ⟨.inr rfl, ResOk.one [] rfl rfl trivial (Vw.pers rfl)⟩
end Go.Proofs.YtohjapcafkhabaaDoor
