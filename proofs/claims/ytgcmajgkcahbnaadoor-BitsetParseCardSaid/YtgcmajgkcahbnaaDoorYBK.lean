/- From the kit's contracts: TrailingZeros64, Len64, Itoa, Join. The layings were written by the kit's lay-plain. No condition. -/
import Derived.Test.YtgcmajgkcahbnaaDoorXW
import Derived.Test.YtgcmajgkcahbnaaDoorYBG
import Derived.Test.YtgcmajgkcahbnaaDoorProg
import Derived.Shelf.LaysM
import Derived.Shelf.Lays7
import Derived.Shelf.Strings.OnBuilder
import Derived.Shelf.Spec.TrailingZeros
import Derived.Shelf.Strconv.Itoa0
import Derived.Shelf.Strconv.Itoa3
import Derived.Ground.NamesProg
import Derived.KernelRfl

set_option linter.unusedSimpArgs false
set_option linter.unusedVariables false
namespace Go.Proofs
open Go.Shelf
def Tryd.laysIt_ren : Go.Shelf.Ren := ⟨fun | 171 => 64 | 243 => 72 | 246 => 79 | 283 => 89 | 284 => 90 | 285 => 91 | 286 => 92 | 129 => 63 | 317 => 103 | 318 => 104 | 319 => 105 | 320 => 106 | 337 => 112 | 338 => 61 | n => n, fun | 3 => 3 | 9 => 9 | 2 => 2 | 4 => 4 | 171 => 123 | 0 => 0 | 53 => 22 | 37 => 103 | 5 => 5 | 173 => 125 | 212 => 142 | 51 => 143 | 20 => 20 | 213 => 144 | 46 => 99 | 232 => 165 | 233 => 100 | n => n, fun | 17 => 1 | 18 => 7 | 19 => 0 | n => n⟩
theorem Tryd.laysIt : Go.Proofs.LaysM.n171 Tryd.prog Tryd.laysIt_ren := {
  mixed := by kernel_rfl
  f129 := Tryd.func63.trans (congrArg some (by kernel_rfl))
  f171 := Tryd.func64.trans (congrArg some (by kernel_rfl))
  f243 := Tryd.func72.trans (congrArg some (by kernel_rfl))
  f246 := Tryd.func79.trans (congrArg some (by kernel_rfl))
  f283 := Tryd.func89.trans (congrArg some (by kernel_rfl))
  f284 := Tryd.func90.trans (congrArg some (by kernel_rfl))
  f285 := Tryd.func91.trans (congrArg some (by kernel_rfl))
  f286 := Tryd.func92.trans (congrArg some (by kernel_rfl))
  f317 := Tryd.func103.trans (congrArg some (by kernel_rfl))
  f318 := Tryd.func104.trans (congrArg some (by kernel_rfl))
  f319 := Tryd.func105.trans (congrArg some (by kernel_rfl))
  f320 := Tryd.func106.trans (congrArg some (by kernel_rfl))
  f337 := Tryd.func112.trans (congrArg some (by kernel_rfl))
  f338 := Tryd.func61.trans (congrArg some (by kernel_rfl))
  t0 := Tryd.underlying0
  a0 := Tryd.isAgg0
  z0 := Tryd.sizeOf0
  v0 := Tryd.zeroValue0
  t2 := Tryd.underlying2
  a2 := Tryd.isAgg2
  z2 := Tryd.sizeOf2
  v2 := Tryd.zeroValue2
  t3 := Tryd.underlying3
  a3 := Tryd.isAgg3
  z3 := Tryd.sizeOf3
  v3 := Tryd.zeroValue3
  t4 := Tryd.underlying4
  a4 := Tryd.isAgg4
  z4 := Tryd.sizeOf4
  v4 := Tryd.zeroValue4
  t5 := Tryd.underlying5
  a5 := Tryd.isAgg5
  z5 := Tryd.sizeOf5
  v5 := Tryd.zeroValue5
  t9 := Tryd.underlying9
  a9 := Tryd.isAgg9
  z9 := Tryd.sizeOf9
  v9 := Tryd.zeroValue9
  t20 := Tryd.underlying20
  a20 := Tryd.isAgg20
  z20 := Tryd.sizeOf20
  v20 := Tryd.zeroValue20
  t37 := Tryd.underlying103
  a37 := Tryd.isAgg103
  z37 := Tryd.sizeOf103
  v37 := Tryd.zeroValue103
  t46 := Tryd.underlying99
  a46 := Tryd.isAgg99
  z46 := Tryd.sizeOf99
  v46 := Tryd.zeroValue99
  t51 := Tryd.underlying143
  a51 := Tryd.isAgg143
  z51 := Tryd.sizeOf143
  v51 := Tryd.zeroValue143
  t53 := Tryd.underlying22
  a53 := Tryd.isAgg22
  z53 := Tryd.sizeOf22
  v53 := Tryd.zeroValue22
  t171 := Tryd.underlying123
  a171 := Tryd.isAgg123
  z171 := Tryd.sizeOf123
  v171 := Tryd.zeroValue123
  t173 := Tryd.underlying125
  a173 := Tryd.isAgg125
  z173 := Tryd.sizeOf125
  v173 := Tryd.zeroValue125
  t212 := Tryd.underlying142
  a212 := Tryd.isAgg142
  z212 := Tryd.sizeOf142
  v212 := Tryd.zeroValue142
  t213 := Tryd.underlying144
  a213 := Tryd.isAgg144
  z213 := Tryd.sizeOf144
  t232 := Tryd.underlying165
  a232 := Tryd.isAgg165
  z232 := Tryd.sizeOf165
  v232 := Tryd.zeroValue165
  t233 := Tryd.underlying100
  a233 := Tryd.isAgg100
  z233 := Tryd.sizeOf100
  v233 := Tryd.zeroValue100
  g17 := by kernel_rfl
  g18 := by kernel_rfl
  g19 := by kernel_rfl
  i0 := by kernel_rfl
  i2 := by kernel_rfl
  i3 := by kernel_rfl
  i4 := by kernel_rfl
  i5 := by kernel_rfl
  i9 := by kernel_rfl
  i20 := by kernel_rfl
  i37 := by kernel_rfl
  i46 := by kernel_rfl
  i51 := by kernel_rfl
  i53 := by kernel_rfl
  i171 := by kernel_rfl
  i173 := by kernel_rfl
  i212 := by kernel_rfl
  i232 := by kernel_rfl
  i233 := by kernel_rfl
  m17 := by kernel_rfl
  m18 := by kernel_rfl
  m19 := by kernel_rfl }
def Tryd.laysLn_ren : Go.Shelf.Ren := ⟨fun | 129 => 63 | n => n, fun | 53 => 22 | 3 => 3 | 4 => 4 | 46 => 99 | 5 => 5 | 9 => 9 | n => n, fun | n => n⟩
theorem Tryd.laysLn : Go.Proofs.Lays.n129 Tryd.prog Tryd.laysLn_ren := {
  mixed := by kernel_rfl
  f129 := Tryd.func63.trans (congrArg some (by kernel_rfl))
  t3 := Tryd.underlying3
  a3 := Tryd.isAgg3
  z3 := Tryd.sizeOf3
  v3 := Tryd.zeroValue3
  t4 := Tryd.underlying4
  a4 := Tryd.isAgg4
  z4 := Tryd.sizeOf4
  v4 := Tryd.zeroValue4
  t5 := Tryd.underlying5
  a5 := Tryd.isAgg5
  z5 := Tryd.sizeOf5
  v5 := Tryd.zeroValue5
  t9 := Tryd.underlying9
  a9 := Tryd.isAgg9
  z9 := Tryd.sizeOf9
  v9 := Tryd.zeroValue9
  t46 := Tryd.underlying99
  a46 := Tryd.isAgg99
  z46 := Tryd.sizeOf99
  v46 := Tryd.zeroValue99
  t53 := Tryd.underlying22
  a53 := Tryd.isAgg22
  z53 := Tryd.sizeOf22
  v53 := Tryd.zeroValue22 }
def Tryd.laysJn_ren : Go.Shelf.Ren := ⟨fun | 156 => 65 | 165 => 73 | 166 => 74 | 169 => 75 | 240 => 80 | 241 => 81 | 276 => 93 | 277 => 94 | n => n, fun | 31 => 90 | 9 => 9 | 3 => 3 | 4 => 4 | 0 => 0 | 20 => 20 | 72 => 105 | 76 => 109 | 70 => 102 | 37 => 103 | 75 => 108 | 127 => 113 | 164 => 127 | 5 => 5 | 80 => 72 | n => n, fun | n => n⟩
theorem Tryd.laysJn : Go.Proofs.Lays.n156 Tryd.prog Tryd.laysJn_ren := {
  mixed := by kernel_rfl
  f156 := Tryd.func65.trans (congrArg some (by kernel_rfl))
  f165 := Tryd.func73.trans (congrArg some (by kernel_rfl))
  f166 := Tryd.func74.trans (congrArg some (by kernel_rfl))
  f169 := Tryd.func75.trans (congrArg some (by kernel_rfl))
  f240 := Tryd.func80.trans (congrArg some (by kernel_rfl))
  f241 := Tryd.func81.trans (congrArg some (by kernel_rfl))
  f276 := Tryd.func93.trans (congrArg some (by kernel_rfl))
  f277 := Tryd.func94.trans (congrArg some (by kernel_rfl))
  t0 := Tryd.underlying0
  a0 := Tryd.isAgg0
  z0 := Tryd.sizeOf0
  v0 := Tryd.zeroValue0
  t3 := Tryd.underlying3
  a3 := Tryd.isAgg3
  z3 := Tryd.sizeOf3
  v3 := Tryd.zeroValue3
  t4 := Tryd.underlying4
  a4 := Tryd.isAgg4
  z4 := Tryd.sizeOf4
  v4 := Tryd.zeroValue4
  t9 := Tryd.underlying9
  a9 := Tryd.isAgg9
  z9 := Tryd.sizeOf9
  v9 := Tryd.zeroValue9
  t20 := Tryd.underlying20
  a20 := Tryd.isAgg20
  z20 := Tryd.sizeOf20
  v20 := Tryd.zeroValue20
  t31 := Tryd.underlying90
  a31 := Tryd.isAgg90
  z31 := Tryd.sizeOf90
  v31 := Tryd.zeroValue90
  t37 := Tryd.underlying103
  a37 := Tryd.isAgg103
  z37 := Tryd.sizeOf103
  v37 := Tryd.zeroValue103
  t70 := Tryd.underlying102
  a70 := Tryd.isAgg102
  z70 := Tryd.sizeOf102
  v70 := Tryd.zeroValue102
  t72 := Tryd.underlying105
  a72 := Tryd.isAgg105
  z72 := Tryd.sizeOf105
  v72 := Tryd.zeroValue105
  t75 := Tryd.underlying108
  a75 := Tryd.isAgg108
  z75 := Tryd.sizeOf108
  v75 := Tryd.zeroValue108
  t76 := Tryd.underlying109
  a76 := Tryd.isAgg109
  z76 := Tryd.sizeOf109
  v76 := Tryd.zeroValue109
  t127 := Tryd.underlying113
  a127 := Tryd.isAgg113
  z127 := Tryd.sizeOf113
  v127 := Tryd.zeroValue113
  t164 := Tryd.underlying127
  a164 := Tryd.isAgg127
  z164 := Tryd.sizeOf127
  v164 := Tryd.zeroValue127 }
def Tryd.laysTz_ren : Go.Shelf.Ren := ⟨fun | 29 => 61 | n => n, fun | 22 => 22 | 3 => 3 | 4 => 4 | 25 => 99 | 54 => 100 | 0 => 0 | 5 => 5 | n => n, fun | 1 => 0 | n => n⟩
theorem Tryd.laysTz : Go.Proofs.Lays7.n29 Tryd.prog Tryd.laysTz_ren := {
  mixed := by kernel_rfl
  f29 := Tryd.func61.trans (congrArg some (by kernel_rfl))
  t0 := Tryd.underlying0
  a0 := Tryd.isAgg0
  z0 := Tryd.sizeOf0
  v0 := Tryd.zeroValue0
  i0 := by kernel_rfl
  t3 := Tryd.underlying3
  a3 := Tryd.isAgg3
  z3 := Tryd.sizeOf3
  v3 := Tryd.zeroValue3
  i3 := by kernel_rfl
  t4 := Tryd.underlying4
  a4 := Tryd.isAgg4
  z4 := Tryd.sizeOf4
  v4 := Tryd.zeroValue4
  i4 := by kernel_rfl
  t5 := Tryd.underlying5
  a5 := Tryd.isAgg5
  z5 := Tryd.sizeOf5
  v5 := Tryd.zeroValue5
  i5 := by kernel_rfl
  t22 := Tryd.underlying22
  a22 := Tryd.isAgg22
  z22 := Tryd.sizeOf22
  v22 := Tryd.zeroValue22
  i22 := by kernel_rfl
  t25 := Tryd.underlying99
  a25 := Tryd.isAgg99
  z25 := Tryd.sizeOf99
  v25 := Tryd.zeroValue99
  i25 := by kernel_rfl
  t54 := Tryd.underlying100
  a54 := Tryd.isAgg100
  z54 := Tryd.sizeOf100
  g1 := by kernel_rfl }
theorem Tryd.extraJn : Builder.Extra Tryd.prog Tryd.laysJn_ren := {
  sizeBuilder := by kernel_rfl
  liesBuilder := by kernel_rfl
  t5 := Tryd.underlying5
  a5 := Tryd.isAgg5
  z5 := Tryd.sizeOf5
  v5 := Tryd.zeroValue5
  infoByte := by kernel_rfl
  cellsByte := by kernel_rfl
  sizeByte := by kernel_rfl
  neB5 := by decide }
end Go.Proofs
namespace Go.Proofs.YtgcmajgkcahbnaaDoor
open Go Go.Shelf Go.RowKit Go.PP Go.Dm

abbrev strD (l : List UInt8) : D := .flat (.string ⟨l.toArray⟩)
theorem tz_d (x : Nat) (hx : x < 18446744073709551616) : DFun Tryd.prog 61 [.flat (.int .u64 (x : Nat))] (.flat (.int .i64 (Lib.ctz 64 x : Nat))) := .intro fun M w vals hM hv hgl => by
  simp only [RepL, Rep] at hv
  obtain ⟨_, _, rfl, rfl, rfl⟩ := hv
  exact (Any7.bits_TrailingZeros64 Tryd.laysTz x hx w (fun _ => gl_64 hgl)).mono fun e w' ⟨q1, q2⟩ => by
    subst q2
    exact ⟨_, q1, by simp only [Rep], Mut.refl _ _⟩
theorem len64_d (x : Nat) (hx : x < 18446744073709551616) : DFun Tryd.prog 63 [.flat (.int .u64 (x : Nat))] (.flat (.int .i64 (Lib.bitLen x))) := .intro fun M w vals hM hv hgl => by
  simp only [RepL, Rep] at hv
  obtain ⟨_, _, rfl, rfl, rfl⟩ := hv
  have h := Any.bits_Len64 Tryd.laysLn (x : Int) w (by omega) (by omega)
  rw [Int.toNat_natCast] at h
  exact h.mono fun e w' ⟨q1, q2⟩ => by
    subst q2
    exact ⟨_, q1, by simp only [Rep], Mut.refl _ _⟩
theorem itoa_d (z : Int) (h1 : -9223372036854775808 ≤ z) (h2 : z ≤ 9223372036854775807) : DFun Tryd.prog 64 [.flat (.int .i64 z)] (strD (Lib.itoa z)) := .intro fun M w vals hM hv hgl => by
  simp only [RepL, Rep] at hv
  obtain ⟨_, _, rfl, rfl, rfl⟩ := hv
  exact (Any.strconv_Itoa Tryd.laysIt z h1 h2 w (gl_tab hgl)).mono fun e w' ⟨q1, k, os, q2⟩ => by
    subst q2
    exact ⟨_, q1, by simp only [Rep], Mut.of_below (Lib.below_grow w.heap.size w (Nat.le_refl _) k os) _⟩
abbrev strsD (l : List (List UInt8)) : D := .sl false 1 l.length (l.map strD)
theorem join_d (l : List (List UInt8)) (sep : List UInt8) (h1 : l.length ≤ 1000000) (h2 : (Lib.join l sep).length ≤ 140737488355328) : DFun Tryd.prog 65 [strsD l, strD sep] (strD (Lib.join l sep)) := .intro fun M w vals hM hv hgl => by
  simp only [RepL, Rep] at hv
  obtain ⟨_, _, rfl, ⟨a, cap, rfl, hc, _, h4, h5, h6⟩, _, _, rfl, rfl, rfl⟩ := hv
  by_cases hl : l = []
  · subst hl
    exact (Any.strings_Join_none Tryd.laysJn Tryd.extraJn a cap ⟨sep.toArray⟩ w).mono fun e w' ⟨q1, q2⟩ => by
      subst q2
      exact ⟨_, q1, by simp only [Rep]; rfl, Mut.refl _ _⟩
  · rcases h6 with h6 | ⟨b, off, rfl, _, h7⟩
    · exact absurd (List.eq_nil_of_length_eq_zero (by omega)) hl
    · have hm : (l.map fun s => (⟨s.toArray⟩ : ByteArray)).map (·.data.toList) = l := by
        rw [List.map_map]
        conv => rhs; rw [← List.map_id l]
        exact List.map_congr_left fun s _ => rfl
      have hcell : ∀ (j : Nat) x, (l.map fun s => (⟨s.toArray⟩ : ByteArray))[j]? = some x → w.cell? ⟨b, off + j, none⟩ = some (.string x) := fun j x hx => by
        rw [List.getElem?_map] at hx
        obtain ⟨s, hs, rfl⟩ := Option.map_eq_some_iff.1 hx
        obtain ⟨u, hu, hr⟩ := h7.get j (d := strD s) (by rw [List.getElem?_map, hs]; rfl)
        simp only [Rep] at hr
        subst hr
        exact hu
      have hb : b < w.heap.size := RepC.lt (cs := l.map strD) (by intro e; exact hl (List.map_eq_nil_iff.1 e)) h7
      have h := Any.strings_Join Tryd.laysJn Tryd.extraJn b off cap (l.map fun s => (⟨s.toArray⟩ : ByteArray)) ⟨sep.toArray⟩ w hcell hb (by simp; omega) (by simpa using hc) (by rw [hm]; simpa using h2)
      rw [hm, List.length_map] at h
      exact h.mono fun e w' ⟨q1, q2⟩ => ⟨_, q1, by simp only [Rep], Mut.of_below q2 _⟩
end Go.Proofs.YtgcmajgkcahbnaaDoor
