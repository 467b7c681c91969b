/- From the kit's contracts: bytes.IndexByte, strconv.toError. No condition. -/
import Derived.Test.YtjmljmappfhiaaaDoorXW
import Derived.Test.YtjmljmappfhiaaaDoorYT
import Derived.Test.YtjmljmappfhiaaaDoorProg
import Derived.Shelf.LaysC
import Derived.Shelf.Strconv.ToError
import Derived.Shelf.Strconv.ToErrorRange
import Derived.Shelf.Bytes.IndexByte
import Derived.Ground.NamesProg
import Derived.KernelRfl

set_option linter.unusedSimpArgs false
set_option linter.unusedVariables false
namespace Go.Proofs
open Go.Shelf
def Tryd.laysIB_ren : Go.Shelf.Ren := ⟨fun | 187 => 61 | 255 => 75 | n => n, fun | 37 => 23 | 5 => 5 | 3 => 3 | n => n, fun | n => n⟩
theorem Tryd.laysIB : Go.Proofs.Lays.n187 Tryd.prog Tryd.laysIB_ren := {
  mixed := by kernel_rfl
  f187 := Tryd.func61.trans (congrArg some (by kernel_rfl))
  f255 := Tryd.func75.trans (congrArg some (by kernel_rfl))
  t3 := Tryd.underlying3
  a3 := Tryd.isAgg3
  z3 := Tryd.sizeOf3
  v3 := Tryd.zeroValue3
  t5 := Tryd.underlying5
  a5 := Tryd.isAgg5
  z5 := Tryd.sizeOf5
  v5 := Tryd.zeroValue5
  t37 := Tryd.underlying23
  a37 := Tryd.isAgg23
  z37 := Tryd.sizeOf23
  v37 := Tryd.zeroValue23 }
def Tryd.laysTE_ren : Go.Shelf.Ren := ⟨fun | 245 => 58 | 279 => 67 | 280 => 68 | 281 => 69 | 282 => 70 | 316 => 77 | 171 => 79 | 205 => 78 | 243 => 85 | 246 => 88 | 283 => 71 | 284 => 72 | 285 => 73 | 286 => 74 | 129 => 81 | 317 => 80 | 318 => 82 | 319 => 83 | 320 => 84 | 337 => 86 | 338 => 87 | n => n, fun | 9 => 9 | 3 => 3 | 75 => 88 | 167 => 98 | 4 => 4 | 168 => 100 | 210 => 113 | 37 => 23 | 0 => 0 | 127 => 120 | 145 => 123 | 143 => 121 | 2 => 2 | 171 => 104 | 53 => 74 | 5 => 5 | 173 => 107 | 212 => 116 | 51 => 44 | 20 => 20 | 213 => 117 | 46 => 97 | 232 => 126 | 233 => 127 | 80 => 128 | n => n, fun | 15 => 1 | 16 => 2 | 17 => 3 | 18 => 4 | 19 => 5 | n => n⟩
theorem Tryd.laysTE : Go.Proofs.LaysC.n245 Tryd.prog Tryd.laysTE_ren := {
  mixed := by kernel_rfl
  f129 := Tryd.func81.trans (congrArg some (by kernel_rfl))
  f171 := Tryd.func79.trans (congrArg some (by kernel_rfl))
  f205 := Tryd.func78.trans (congrArg some (by kernel_rfl))
  f243 := Tryd.func85.trans (congrArg some (by kernel_rfl))
  f245 := Tryd.func58.trans (congrArg some (by kernel_rfl))
  f246 := Tryd.func88.trans (congrArg some (by kernel_rfl))
  f279 := Tryd.func67.trans (congrArg some (by kernel_rfl))
  f280 := Tryd.func68.trans (congrArg some (by kernel_rfl))
  f281 := Tryd.func69.trans (congrArg some (by kernel_rfl))
  f282 := Tryd.func70.trans (congrArg some (by kernel_rfl))
  f283 := Tryd.func71.trans (congrArg some (by kernel_rfl))
  f284 := Tryd.func72.trans (congrArg some (by kernel_rfl))
  f285 := Tryd.func73.trans (congrArg some (by kernel_rfl))
  f286 := Tryd.func74.trans (congrArg some (by kernel_rfl))
  f316 := Tryd.func77.trans (congrArg some (by kernel_rfl))
  f317 := Tryd.func80.trans (congrArg some (by kernel_rfl))
  f318 := Tryd.func82.trans (congrArg some (by kernel_rfl))
  f319 := Tryd.func83.trans (congrArg some (by kernel_rfl))
  f320 := Tryd.func84.trans (congrArg some (by kernel_rfl))
  f337 := Tryd.func86.trans (congrArg some (by kernel_rfl))
  f338 := Tryd.func87.trans (congrArg some (by kernel_rfl))
  t0 := Tryd.underlying0
  a0 := Tryd.isAgg0
  z0 := Tryd.sizeOf0
  v0 := Tryd.zeroValue0
  t2 := Tryd.underlying2
  a2 := Tryd.isAgg2
  z2 := Tryd.sizeOf2
  v2 := Tryd.zeroValue2
  t3 := Tryd.underlying3
  a3 := Tryd.isAgg3
  z3 := Tryd.sizeOf3
  v3 := Tryd.zeroValue3
  t4 := Tryd.underlying4
  a4 := Tryd.isAgg4
  z4 := Tryd.sizeOf4
  v4 := Tryd.zeroValue4
  t5 := Tryd.underlying5
  a5 := Tryd.isAgg5
  z5 := Tryd.sizeOf5
  v5 := Tryd.zeroValue5
  t9 := Tryd.underlying9
  a9 := Tryd.isAgg9
  z9 := Tryd.sizeOf9
  v9 := Tryd.zeroValue9
  t20 := Tryd.underlying20
  a20 := Tryd.isAgg20
  z20 := Tryd.sizeOf20
  v20 := Tryd.zeroValue20
  t37 := Tryd.underlying23
  a37 := Tryd.isAgg23
  z37 := Tryd.sizeOf23
  v37 := Tryd.zeroValue23
  t46 := Tryd.underlying97
  a46 := Tryd.isAgg97
  z46 := Tryd.sizeOf97
  v46 := Tryd.zeroValue97
  t51 := Tryd.underlying44
  a51 := Tryd.isAgg44
  z51 := Tryd.sizeOf44
  v51 := Tryd.zeroValue44
  t53 := Tryd.underlying74
  a53 := Tryd.isAgg74
  z53 := Tryd.sizeOf74
  v53 := Tryd.zeroValue74
  t75 := Tryd.underlying88
  a75 := Tryd.isAgg88
  z75 := Tryd.sizeOf88
  v75 := Tryd.zeroValue88
  t127 := Tryd.underlying120
  a127 := Tryd.isAgg120
  z127 := Tryd.sizeOf120
  v127 := Tryd.zeroValue120
  t143 := Tryd.underlying121
  a143 := Tryd.isAgg121
  z143 := Tryd.sizeOf121
  v143 := Tryd.zeroValue121
  t145 := Tryd.underlying123
  a145 := Tryd.isAgg123
  z145 := Tryd.sizeOf123
  v145 := Tryd.zeroValue123
  t167 := Tryd.underlying98
  a167 := Tryd.isAgg98
  z167 := Tryd.sizeOf98
  v167 := Tryd.zeroValue98
  t168 := Tryd.underlying100
  a168 := Tryd.isAgg100
  z168 := Tryd.sizeOf100
  v168 := Tryd.zeroValue100
  t171 := Tryd.underlying104
  a171 := Tryd.isAgg104
  z171 := Tryd.sizeOf104
  v171 := Tryd.zeroValue104
  t173 := Tryd.underlying107
  a173 := Tryd.isAgg107
  z173 := Tryd.sizeOf107
  v173 := Tryd.zeroValue107
  t210 := Tryd.underlying113
  a210 := Tryd.isAgg113
  z210 := Tryd.sizeOf113
  v210 := Tryd.zeroValue113
  t212 := Tryd.underlying116
  a212 := Tryd.isAgg116
  z212 := Tryd.sizeOf116
  v212 := Tryd.zeroValue116
  t213 := Tryd.underlying117
  a213 := Tryd.isAgg117
  z213 := Tryd.sizeOf117
  t232 := Tryd.underlying126
  a232 := Tryd.isAgg126
  z232 := Tryd.sizeOf126
  v232 := Tryd.zeroValue126
  t233 := Tryd.underlying127
  a233 := Tryd.isAgg127
  z233 := Tryd.sizeOf127
  v233 := Tryd.zeroValue127
  g15 := by kernel_rfl
  g16 := by kernel_rfl
  g17 := by kernel_rfl
  g18 := by kernel_rfl
  g19 := by kernel_rfl
  t80 := Tryd.underlying128
  a80 := Tryd.isAgg128
  z80 := Tryd.sizeOf128
  v80 := Tryd.zeroValue128
  i0 := by kernel_rfl
  i2 := by kernel_rfl
  i3 := by kernel_rfl
  i4 := by kernel_rfl
  i5 := by kernel_rfl
  i9 := by kernel_rfl
  i20 := by kernel_rfl
  i37 := by kernel_rfl
  i46 := by kernel_rfl
  i51 := by kernel_rfl
  i53 := by kernel_rfl
  i75 := by kernel_rfl
  i80 := by kernel_rfl
  i127 := by kernel_rfl
  i143 := by kernel_rfl
  i145 := by kernel_rfl
  i167 := by kernel_rfl
  i168 := by kernel_rfl
  i171 := by kernel_rfl
  i173 := by kernel_rfl
  i210 := by kernel_rfl
  i212 := by kernel_rfl
  i232 := by kernel_rfl
  i233 := by kernel_rfl
  m15 := by kernel_rfl
  m16 := by kernel_rfl
  m17 := by kernel_rfl
  m18 := by kernel_rfl
  m19 := by kernel_rfl
  c0 := by kernel_rfl
  c2 := by kernel_rfl
  c3 := by kernel_rfl
  c4 := by kernel_rfl
  c5 := by kernel_rfl
  c9 := by kernel_rfl
  c20 := by kernel_rfl
  c37 := by kernel_rfl
  c46 := by kernel_rfl
  c51 := by kernel_rfl
  c53 := by kernel_rfl
  c75 := by kernel_rfl
  c80 := by kernel_rfl
  c127 := by kernel_rfl
  c143 := by kernel_rfl
  c145 := by kernel_rfl
  c167 := by kernel_rfl
  c168 := by kernel_rfl
  c171 := by kernel_rfl
  c173 := by kernel_rfl
  c210 := by kernel_rfl
  c212 := by kernel_rfl
  c213 := by kernel_rfl
  c232 := by kernel_rfl
  c233 := by kernel_rfl }
end Go.Proofs
namespace Go.Proofs.YtjmljmappfhiaaaDoor
open Go Go.Shelf Go.RowKit Go.PP Go.Dm

theorem toErr_syntax (fn s : List UInt8) (hs : s.length ≤ 281474976710656) (base bits : Int) : DFun Tryd.prog 58 [.flat (.string ⟨fn.toArray⟩), .flat (.string ⟨s.toArray⟩), .flat (.int .i64 base), .flat (.int .i64 bits), .flat (.iface 98 (.int .i64 2))] .ifn := .intro fun M w vals hM hv hgl => by
  simp only [RepL, Rep] at hv
  obtain ⟨_, _, rfl, rfl, _, _, rfl, rfl, _, _, rfl, rfl, _, _, rfl, rfl, _, _, rfl, rfl, rfl⟩ := hv
  obtain ⟨cs, T, fz, h1, h2, h3⟩ := hgl (1, [isIf]) (.tail _ (.head _))
  obtain ⟨u, hu, hi⟩ := h3 0 isIf rfl
  exact (Any.strconv_toError_syntax Tryd.laysTE ⟨fn.toArray⟩ ⟨s.toArray⟩ base bits u w (by rw [bsz]; exact hs) (by simp only [World.cell?, show Tryd.laysTE_ren.g 15 = 1 by kernel_rfl]; rw [h1]; exact hu) hi).mono fun e w' ⟨N, q1, q2, q3, q4⟩ => ⟨_, q1, by simp only [Rep]; exact ⟨_, _, rfl⟩, Mut.of_below q4 _⟩
theorem toErr_range (fn s : List UInt8) (hs : s.length ≤ 281474976710656) (base bits : Int) : DFun Tryd.prog 58 [.flat (.string ⟨fn.toArray⟩), .flat (.string ⟨s.toArray⟩), .flat (.int .i64 base), .flat (.int .i64 bits), .flat (.iface 98 (.int .i64 1))] .ifn := .intro fun M w vals hM hv hgl => by
  simp only [RepL, Rep] at hv
  obtain ⟨_, _, rfl, rfl, _, _, rfl, rfl, _, _, rfl, rfl, _, _, rfl, rfl, _, _, rfl, rfl, rfl⟩ := hv
  obtain ⟨cs, T, fz, h1, h2, h3⟩ := hgl (2, [isIf]) (.tail _ (.tail _ (.head _)))
  obtain ⟨u, hu, hi⟩ := h3 0 isIf rfl
  exact (Any.strconv_toError_range Tryd.laysTE ⟨fn.toArray⟩ ⟨s.toArray⟩ base bits u w (by rw [bsz]; exact hs) (by simp only [World.cell?, show Tryd.laysTE_ren.g 16 = 2 by kernel_rfl]; rw [h1]; exact hu) hi).mono fun e w' ⟨N, q1, q2, q3, q4⟩ => ⟨_, q1, by simp only [Rep]; exact ⟨_, _, rfl⟩, Mut.of_below q4 _⟩
theorem ib_empty {P : Program} (w : World) (a : Addr) (c : Nat) (cv : Int) : (Extern.BytealgIndexByte.indexByte #[.slice (some a) 0 c, .int .u8 cv]).run P w = .ok (.int .i64 (-1)) w := by
  have hl := Lib.run_loadBytesX (P := P) w [] a .empty (by simp)
  have hs := Lib.run_indexByteString (P := P) .empty cv w
  have he : (⟨ByteArray.empty.data ++ (Lib.bytesOf []).toArray⟩ : ByteArray) = .empty := rfl
  rw [he] at hl
  change Sem.run P (do
    let b ← Extern.Bytes.bytesOf (.slice (some a) 0 c)
    let c ← Extern.Bytes.asByte (.int .u8 cv)
    match (List.range b.size).find? fun i => b[i]! == c with
    | some i => pure (goInt i)
    | none => pure (goInt (-1))) w = _
  change Sem.run P (do
    let b ← Extern.Bytes.bytesOf (.string .empty)
    let c ← Extern.Bytes.asByte (.int .u8 cv)
    match (List.range b.size).find? fun i => b[i]! == c with
    | some i => pure (goInt i)
    | none => pure (goInt (-1))) w = _ at hs
  simp only [List.length_nil] at hl
  simp only [Extern.Bytes.bytesOf, Sem.run_bind, Sem.run_pure, hl, Result.andThen] at hs ⊢
  exact hs
set_option maxHeartbeats 1000000 in
set_option maxRecDepth 100000 in
theorem indexByte_e {P : Program} {ρ : Ren} (L : Lays.n187 P ρ) (a : Addr) (c : Nat) (cv : Int) (w : World) :
    Calls P (ρ.f 187) #[.slice (some a) 0 c, .int .u8 cv] w fun e w' => e = .returned (.int .i64 (-1)) ∧ w' = w := by
  have t3 := L.t3; have t5 := L.t5; have t37 := L.t37
  have a3 := L.a3; have a5 := L.a5; have a37 := L.a37
  have mixed := L.mixed; have z3 := L.z3; have v3 := L.v3; have z5 := L.z5; have v5 := L.v5; have z37 := L.z37; have v37 := L.v37
  go_enter L.f187, Body.n187_ntmps ρ
  go_wp2
  rw [run_callFunc_extern L.f255 (by kernel_rfl) (by kernel_rfl) (by kernel_rfl) (e := Extern.BytealgIndexByte.indexByte) (by kernel_rfl), ib_empty w a c cv]
  simp only [Result.andThen]
  rw [Oper.upon_value]
  go_wp2
  go_ret
  exact ⟨rfl, rfl⟩
set_option maxHeartbeats 1000000 in
set_option maxRecDepth 100000 in
theorem indexByte_n {P : Program} {ρ : Ren} (L : Lays.n187 P ρ) (c : Nat) (cv : Int) (w : World) :
    Calls P (ρ.f 187) #[.slice none 0 c, .int .u8 cv] w fun e w' => e = .returned (.int .i64 (-1)) ∧ w' = w := by
  have t3 := L.t3; have t5 := L.t5; have t37 := L.t37
  have a3 := L.a3; have a5 := L.a5; have a37 := L.a37
  have mixed := L.mixed; have z3 := L.z3; have v3 := L.v3; have z5 := L.z5; have v5 := L.v5; have z37 := L.z37; have v37 := L.v37
  go_enter L.f187, Body.n187_ntmps ρ
  go_wp2
  rw [run_callFunc_extern L.f255 (by kernel_rfl) (by kernel_rfl) (by kernel_rfl) (e := Extern.BytealgIndexByte.indexByte) (by kernel_rfl), Lib.run_indexByteNil w 0 c cv]
  simp only [Result.andThen]
  rw [Oper.upon_value]
  go_wp2
  go_ret
  exact ⟨rfl, rfl⟩
theorem bytesOf_nat (l : List UInt8) : Lib.bytesOf (l.map fun c => (c.toNat : Int)) = l := by
  unfold Lib.bytesOf
  rw [List.map_map]
  conv => rhs; rw [← List.map_id l]
  apply List.map_congr_left
  intro c _
  simp
theorem indexByte_d (l : List UInt8) (c : UInt8) : DFun Tryd.prog 61 [.sl false 1 l.length (bD l), .flat (.int .u8 c.toNat)] (.flat (.int .i64 (Lib.indexByte l c))) := .intro fun M w vals hM hv hgl => by
  simp only [RepL, Rep] at hv
  obtain ⟨_, _, rfl, ⟨a, cap, rfl, h2, _, h4, h5, h6⟩, _, _, rfl, rfl, rfl⟩ := hv
  have fin : ∀ r : Int, r = Lib.indexByte l c → ∀ (e : Ending) (w' : World), (e = .returned (.int .i64 r) ∧ w' = w) → ∃ v, e = .returned v ∧ Rep M w' none (.flat (.int .i64 (Lib.indexByte l c))) v ∧ Fix w w' := fun r hr e w' ⟨q1, q2⟩ => by
    subst hr; subst q2
    exact ⟨_, q1, by simp only [Rep], Mut.refl _ _⟩
  cases a with
  | none =>
    have hl : l = [] := by
      rcases h6 with h6 | ⟨b, off, h, _⟩
      · exact List.eq_nil_of_length_eq_zero (by omega)
      · cases h
    subst hl
    exact (indexByte_n Tryd.laysIB cap c.toNat w).mono (fin _ rfl)
  | some a =>
    by_cases hl : l = []
    · subst hl
      exact (indexByte_e Tryd.laysIB a cap c.toNat w).mono (fin _ rfl)
    · rcases h6 with h6 | ⟨b, off, h, _, h7⟩
      · exact absurd (List.eq_nil_of_length_eq_zero (by omega)) hl
      · cases h
        have := Any.bytes_IndexByte Tryd.laysIB b off l.length cap (l.map fun c => (c.toNat : Int)) c.toNat w (by simp) (fun i hi => by
          obtain ⟨u, hu, hr⟩ := h7.get i (d := .flat (.int .u8 (l[i]).toNat)) (by unfold bD; simp [hi])
          simp only [Rep] at hr
          subst hr
          rw [hu]; simp [hi])
        rw [bytesOf_nat] at this
        exact this.mono (fin _ (by simp))
end Go.Proofs.YtjmljmappfhiaaaDoor
