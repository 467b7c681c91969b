/- A machine over data: a number's digits appended to a row. No condition. -/
import Derived.Test.YtohjapcafkhabaaDoorXQ
import Derived.Shelf.LaysM
import Derived.Shelf.Strconv.Itoa1
import Derived.Shelf.Strconv.Itoa2
import Derived.Shelf.Strconv.AppendInt10
import Derived.WideLaws
import Derived.Laws.Build

set_option linter.unusedSimpArgs false
set_option linter.unusedVariables false
set_option linter.unusedSectionVars false
set_option maxHeartbeats 400000
namespace Go.Dm
open Go Go.RowKit Go.PP Go.Shelf Go.Sort Go.Lib Go.Proofs
variable [GlobW] [Rnd]

section
variable {P : Program}
theorem wpList_appendR {w : World} {ops : Array Oper} {rest : List Oper} {o : Oper} {a : Act} {Q : Exit → Act → World → Prop} (hgd : o.guard = none) (s x : Operand) (t xt : TypeId)
    (ho : o.op = .call { callee := .builtin .append, args := #[s, x], argTypes := #[t, xt] })
    (e : TypeId) {z : Value} {size bytes : Nat} (ht : P.underlying t = some (.slice e)) (hinfo : (P.info? e).map (fun i => (i.zero, i.size, i.bytes)) = some (some z, size, bytes)) (hzs : z.cells.size = size) (hsz : 0 < size)
    (v : Value) (n : Nat) (cs : List Value) (hs : a.eval s = v) (hown : OwnR w e size v n cs) (u : Value) (m : Nat) (news : List Value) (hx : a.eval x = u) (hsrc : Src P w xt size m u news) (hl : news.length = m * size) (h1 : ∀ u ∈ news, u.oneCell' = true)
    (hby : (n + m) * bytes ≤ 140737488355328) (hbp : 0 < bytes)
    (h : ∀ v' w', OwnR w' e size v' (n + m) (cs ++ news) → Mut (fun k => v.ownBlock = some k) w w' → (∀ k, v'.ownBlock = some k → v.ownBlock = some k ∨ w.heap.size ≤ k) → (m = 0 → v' = v) → wpList P ops Q rest (a.put o.dst v') w') : wpList P ops Q (o :: rest) a w := by
  refine wpList_plain hgd fun K hK => ?_
  obtain ⟨v', w', hr, h2, h3, h4, h5⟩ := run_appendR (P := P) t xt o.type e ht hinfo hzs hsz v n cs hown u m news hsrc hl h1 hby hbp
  unfold Oper.wp execOp
  simp only [ho, resolve, invoke, builtin, Sem.run_bind, Sem.run_pure, Result.andThen_ok, List.map_toArray, List.map_cons, List.map_nil, hs, hx, hr]
  exact hK _ _ (h v' w' h2 h3 h4 h5)
/-- What a call has done that appended to a row. -/
def Appended (w : World) (e : TypeId) (v : Value) (n : Nat) (cs news : List Value) (m : Nat) (v' : Value) (w' : World) : Prop :=
  OwnR w' e 1 v' (n + m) (cs ++ news) ∧ Mut (fun k => v.ownBlock = some k) w w' ∧ (∀ k, v'.ownBlock = some k → v.ownBlock = some k ∨ w.heap.size ≤ k) ∧ (m = 0 → v' = v)
theorem digits_src {P : Program} {w : World} {xt : Nat} {l : List UInt8} (hty : P.underlying xt = some .string) : Src P w xt 1 l.length (.string ⟨l.toArray⟩) (byteCells l) := by
  have := Src.str (P := P) (w := w) (xt := xt) (s := ⟨l.toArray⟩) hty
  rw [bsz] at this
  exact this
theorem OwnR.lt {w : World} {e n size : Nat} {v : Value} {cs : List Value} (h : OwnR w e size v n cs) : ∀ k, v.ownBlock = some k → k < w.heap.size := by
  intro k hk
  rcases h.2 with ⟨rfl, _⟩ | ⟨g, cap, cur, fz, rfl, h2, _⟩
  · cases hk
  · cases hk; exact (Array.getElem?_eq_some_iff.1 h2).1
end
variable {P : Program} {ρ : Ren}
set_option maxHeartbeats 6400000 in
set_option maxRecDepth 100000 in
theorem appendUint_small (L : LaysM.n288 P ρ) (n u : Nat) (hu : u < 100) (sv : Value) (xs : List Value) (w : World) (hown : OwnR w (ρ.t 5) 1 sv n xs) (hlim : n + 20 ≤ 140737488355328) :
    Calls P (ρ.f 288) #[sv, .int .u64 u, .int .i64 10] w fun e w' => ∃ v', e = .returned v' ∧ Appended w (ρ.t 5) sv n xs (Lib.byteCells (Lib.decDigits u)) (Lib.decDigits u).length v' w' := by
  have mixed := L.mixed
  have t5 := L.t5; have a5 := L.a5; have z5 := L.z5; have v5 := L.v5
  have t37 := L.t37; have u37 := run_underlying L.t37; have a37 := L.a37; have z37 := L.z37; have v37 := L.v37
  have t53 := L.t53; have a53 := L.a53; have z53 := L.z53; have v53 := L.v53
  have t3 := L.t3; have a3 := L.a3; have z3 := L.z3; have v3 := L.v3
  have t4 := L.t4; have a4 := L.a4; have z4 := L.z4; have v4 := L.v4
  have t9 := L.t9; have a9 := L.a9; have z9 := L.z9; have v9 := L.v9
  have t171 := L.t171; have a171 := L.a171; have z171 := L.z171; have v171 := L.v171
  have t0 := L.t0; have a0 := L.a0; have z0 := L.z0; have v0 := L.v0
  have t173 := L.t173; have a173 := L.a173; have z173 := L.z173; have v173 := L.v173
  have e283 : ∀ args w, (callFunc (ρ.f 283) args).run P w = .ok (.enter (ρ.f 283) args) w := enters_of L.f283 (by kernel_rfl) rfl
  have hi5 := L.i5
  have hlen : (Lib.decDigits u).length ≤ 20 := by
    rw [Lib.decDigits_length]
    by_cases h10 : u < 10
    · rw [Lib.nDigits_small h10]; omega
    · rw [Lib.nDigits_big h10, Lib.nDigits_small (show u / 10 < 10 by omega)]; omega
  go_enter L.f288, Body.n288_ntmps ρ
  go_wp2_with (first
    | (go_at_fn (ρ.f 283); refine (Any.internal_strconv_small { L with } u hu _).mono ?_; rintro e w' ⟨rfl, rfl⟩)
    | (at_builtin; refine wpList_appendR rfl _ _ (ρ.t 37) (ρ.t 9) rfl (ρ.t 5) L.t37 hi5 rfl (by decide) _ _ _ rfl hown _ (Lib.decDigits u).length (Lib.byteCells (Lib.decDigits u)) rfl (digits_src L.t9) (by simp [Lib.byteCells]) (by intro u' hu'; simp only [Lib.byteCells, List.mem_map] at hu'; obtain ⟨b, _, rfl⟩ := hu'; rfl) (by omega) (by decide) ?_))
  intro v' w1 hown' hm hb he
  go_wp2
  go_ret
  exact ⟨v', rfl, hown', hm, hb, fun h0 => he (by first | exact h0 | (simpa using h0))⟩
set_option maxHeartbeats 12800000 in
set_option maxRecDepth 100000 in
theorem appendUint_big (L : LaysM.n288 P ρ) (n u : Nat) (hu : 100 ≤ u) (hu64 : u < 18446744073709551616) (sv : Value) (xs : List Value) (w : World) (hown : OwnR w (ρ.t 5) 1 sv n xs) (hlim : n + 20 ≤ 140737488355328)
    (htab : Lib.TabIs P w "internal/strconv.uint64pow10" .u64 Lib.pow10Tab) :
    Calls P (ρ.f 288) #[sv, .int .u64 u, .int .i64 10] w fun e w' => ∃ v', e = .returned v' ∧ Appended w (ρ.t 5) sv n xs (Lib.byteCells (Lib.decDigits u)) (Lib.decDigits u).length v' w' := by
  have mixed := L.mixed
  have t5 := L.t5; have a5 := L.a5; have z5 := L.z5; have v5 := L.v5
  have t37 := L.t37; have u37 := run_underlying L.t37; have a37 := L.a37; have z37 := L.z37; have v37 := L.v37
  have t53 := L.t53; have a53 := L.a53; have z53 := L.z53; have v53 := L.v53
  have t3 := L.t3; have a3 := L.a3; have z3 := L.z3; have v3 := L.v3
  have t4 := L.t4; have a4 := L.a4; have z4 := L.z4; have v4 := L.v4
  have t9 := L.t9; have a9 := L.a9; have z9 := L.z9; have v9 := L.v9
  have t171 := L.t171; have a171 := L.a171; have z171 := L.z171; have v171 := L.v171
  have t0 := L.t0; have a0 := L.a0; have z0 := L.z0; have v0 := L.v0
  have t173 := L.t173; have a173 := L.a173; have z173 := L.z173; have v173 := L.v173
  have e284 : ∀ args w, (callFunc (ρ.f 284) args).run P w = .ok (.enter (ρ.f 284) args) w := enters_of L.f284 (by kernel_rfl) rfl
  have e285 : ∀ args w, (callFunc (ρ.f 285) args).run P w = .ok (.enter (ρ.f 285) args) w := enters_of L.f285 (by kernel_rfl) rfl
  have hi5 := L.i5
  have hu1 : 1 ≤ u := by omega
  have hnd20 : Lib.nDigits u ≤ 20 := by have := Lib.numDigits_eq u hu1 hu64; split at this <;> omega
  have hal : P.arrayLen (ρ.t 171) = 24 := by simp [Program.arrayLen, L.t171]
  have hsl : ∀ W, (Instr.sliceAt (ρ.t 171) (.pointer (some ⟨w.heap.size, 0, none⟩)) none (some (.int .i64 (Lib.nDigits u : Int))) none).run P W = .ok (.slice (some ⟨w.heap.size, 0, none⟩) (Lib.nDigits u) 24) W := fun W => by
    rw [run_sliceAt_array_h W (ρ.t 171) ⟨w.heap.size, 0, none⟩ (by simp [Program.arrayLen, Program.elem, L.t171]) .i64 (Lib.nDigits u : Int) (by omega) (by rw [hal]; omega)]
    go_simp
  have hH0 := Lib.holds_zero0 w (ρ.t 171) (Lib.nDigits u) (by omega)
  have hfmt := Any.internal_strconv_formatBase10 { L with } w.heap.size 0 24 u (Array.replicate (Lib.nDigits u) 0) (w.alloc (.cells Lib.zeros24 (ρ.t 171))) hH0 (by rw [Array.size_replicate]; exact Lib.lt_pow_nDigits u) hu64 (by rw [Array.size_replicate]; omega)
  rw [Array.size_replicate] at hfmt
  have HH0 := Lib.hid hH0
  have iu : (100 : Int) ≤ (u : Int) := by omega
  clear hH0 hal
  go_enter L.f288, Body.n288_ntmps ρ
  go_wp2_with (first
    | (go_at_fn (ρ.f 284); refine (Any.internal_strconv_numDigits { L with } u hu1 hu64 _ (Lib.tabIs_alloc htab _)).mono ?_; rintro e w' ⟨rfl, rfl⟩))
  go_at_fn (ρ.f 285)
  refine hfmt.mono ?_
  rintro e w' ⟨rfl, k, v', dk, rfl, hF⟩
  have hcells : ∀ j u', (Lib.byteCells (Lib.decDigits u))[j]? = some u' → ((putRow (fun (b : UInt8) => Value.int .u8 (b.toNat : Int)) (w.alloc (.cells Lib.zeros24 (ρ.t 171))) w.heap.size 0 dk).drewN k).cell? ((⟨w.heap.size, 0, none⟩ : Addr).add j) = some u' := by
    intro j u' hj
    have hjl : j < (Lib.decDigits u).length := by
      have h5 := (List.getElem?_eq_some_iff.1 hj).1
      rwa [Lib.byteCells_length] at h5
    have e5 : (Lib.byteCells (Lib.decDigits u))[j]? = some (Value.int .u8 ((Lib.decDigits u)[j].toNat : Int)) := by simp [Lib.byteCells, hjl]
    rw [e5] at hj
    cases hj
    rw [Lib.row_is_numeral hF j hjl, Lib.add_plain, World.cell?_drewN]
    exact cell?_putRow (fun (b : UInt8) => Value.int .u8 (b.toNat : Int)) _ w.heap.size 0 _ dk HH0.out (by rw [hF.size, Array.size_replicate]) j (by rw [hF.size]; rw [Lib.decDigits_length] at hjl; exact hjl)
  obtain ⟨os, eo⟩ := Lib.fin_at w (.cells Lib.zeros24 (ρ.t 171)) dk k 0
  have hfix : Mut (fun _ => False) w ((putRow (fun (b : UInt8) => Value.int .u8 (b.toNat : Int)) (w.alloc (.cells Lib.zeros24 (ρ.t 171))) w.heap.size 0 dk).drewN k) := by rw [eo]; exact Mut.of_below (Lib.below_grow w.heap.size w (Nat.le_refl _) k os) _
  generalize (putRow (fun (b : UInt8) => Value.int .u8 (b.toNat : Int)) (w.alloc (.cells Lib.zeros24 (ρ.t 171))) w.heap.size 0 dk).drewN k = W2 at hcells hfix ⊢
  clear eo HH0 hfmt
  have hown2 : OwnR W2 (ρ.t 5) 1 sv n xs := hown.mut hfix (fun _ _ h => h)
  have hsrc : Src P W2 (ρ.t 37) 1 (Lib.nDigits u) (.slice (some ⟨w.heap.size, 0, none⟩) (Lib.nDigits u) 24) (Lib.byteCells (Lib.decDigits u)) := Src.sl L.t37 (by rw [Lib.byteCells_length, Lib.decDigits_length, Nat.mul_one]) (fun h => by cases h) (fun a ha j u' hj => by cases ha; exact hcells j u' hj)
  go_wp2_with (at_builtin; refine wpList_appendR rfl _ _ (ρ.t 37) (ρ.t 37) rfl (ρ.t 5) L.t37 hi5 rfl (by decide) _ _ _ rfl hown2 _ (Lib.nDigits u) (Lib.byteCells (Lib.decDigits u)) rfl hsrc ?c0 ?c2 ?c4 (by decide) ?_)
  case c0 => rw [Lib.byteCells_length, Lib.decDigits_length, Nat.mul_one]
  case c2 => intro u' hu'; simp only [Lib.byteCells, List.mem_map] at hu'; obtain ⟨b, _, rfl⟩ := hu'; rfl
  case c4 => omega
  intro v2 w3 hown' hm hb he
  go_wp2
  go_ret
  refine ⟨v2, rfl, ?_⟩
  rw [Lib.decDigits_length]
  refine ⟨hown', (hfix.mono fun _ _ h => h.elim).trans hm, fun k hk => (hb k hk).imp id fun h => Nat.le_trans hfix.size h, he⟩
theorem appendUint (L : LaysM.n288 P ρ) (n u : Nat) (hu64 : u < 18446744073709551616) (sv : Value) (xs : List Value) (w : World) (hown : OwnR w (ρ.t 5) 1 sv n xs) (hlim : n + 20 ≤ 140737488355328)
    (htab : Lib.TabIs P w "internal/strconv.uint64pow10" .u64 Lib.pow10Tab) :
    Calls P (ρ.f 288) #[sv, .int .u64 u, .int .i64 10] w fun e w' => ∃ v', e = .returned v' ∧ Appended w (ρ.t 5) sv n xs (Lib.byteCells (Lib.decDigits u)) (Lib.decDigits u).length v' w' := by
  by_cases h : u < 100
  · exact appendUint_small L n u h sv xs w hown hlim
  · exact appendUint_big L n u (by omega) hu64 sv xs w hown hlim htab
set_option maxHeartbeats 6400000 in
set_option maxRecDepth 100000 in
theorem appendInt_in (L : LaysM.n249 P ρ) (n u : Nat) (hu : u ≤ 9223372036854775807) (sv : Value) (xs : List Value) (w : World) (hown : OwnR w (ρ.t 5) 1 sv n xs) (hlim : n + 21 ≤ 140737488355328)
    (htab : Lib.TabIs P w "internal/strconv.uint64pow10" .u64 Lib.pow10Tab) :
    Calls P (ρ.f 249) #[sv, .int .i64 u, .int .i64 10] w fun e w' => ∃ v', e = .returned v' ∧ Appended w (ρ.t 5) sv n xs (Lib.byteCells (Lib.decDigits u)) (Lib.decDigits u).length v' w' := by
  have mixed := L.mixed
  have t5 := L.t5; have a5 := L.a5; have z5 := L.z5; have v5 := L.v5
  have t37 := L.t37; have u37 := run_underlying L.t37; have a37 := L.a37; have z37 := L.z37; have v37 := L.v37
  have t2 := L.t2; have a2 := L.a2; have z2 := L.z2; have v2 := L.v2
  have t3 := L.t3; have a3 := L.a3; have z3 := L.z3; have v3 := L.v3
  have t53 := L.t53; have a53 := L.a53; have z53 := L.z53; have v53 := L.v53
  have t4 := L.t4; have a4 := L.a4; have z4 := L.z4; have v4 := L.v4
  have e288 : ∀ args w, (callFunc (ρ.f 288) args).run P w = .ok (.enter (ρ.f 288) args) w := enters_of L.f288 (by kernel_rfl) rfl
  have hu64 : u < 18446744073709551616 := by omega
  go_enter L.f249, Body.n249_ntmps ρ
  go_wp2_with (go_at_fn (ρ.f 288); refine (appendUint { L with } n u hu64 sv xs w hown (by omega) htab).mono ?_; rintro e w2 ⟨v2, rfl, hap⟩)
  go_wp2
  first | go_ret | go_ret2
  exact ⟨v2, rfl, hap⟩
set_option maxRecDepth 100000 in
theorem appendInt (L : LaysM.n176 P ρ) (n u : Nat) (hu : u ≤ 9223372036854775807) (sv : Value) (xs : List Value) (w : World) (hown : OwnR w (ρ.t 5) 1 sv n xs) (hlim : n + 21 ≤ 140737488355328)
    (htab : Lib.TabIs P w "internal/strconv.uint64pow10" .u64 Lib.pow10Tab) :
    Calls P (ρ.f 176) #[sv, .int .i64 u, .int .i64 10] w fun e w' => ∃ v', e = .returned v' ∧ Appended w (ρ.t 5) sv n xs (Lib.byteCells (Lib.decDigits u)) (Lib.decDigits u).length v' w' := by
  have mixed := L.mixed
  have t5 := L.t5; have a5 := L.a5; have z5 := L.z5; have v5 := L.v5
  have t37 := L.t37; have u37 := run_underlying L.t37; have a37 := L.a37; have z37 := L.z37; have v37 := L.v37
  have t2 := L.t2; have a2 := L.a2; have z2 := L.z2; have v2 := L.v2
  have t3 := L.t3; have a3 := L.a3; have z3 := L.z3; have v3 := L.v3
  have e249 : ∀ args w, (callFunc (ρ.f 249) args).run P w = .ok (.enter (ρ.f 249) args) w := enters_of L.f249 (by kernel_rfl) rfl
  go_enter L.f176, Body.n176_ntmps ρ
  go_wp2_with (go_at_fn (ρ.f 249); refine (appendInt_in { L with } n u hu sv xs w hown hlim htab).mono ?_; rintro e w2 ⟨v2, rfl, hap⟩)
  go_wp2
  go_ret
  exact ⟨v2, rfl, hap⟩
/-- strconv.AppendInt of a seat: number k, rows of bytes of type e. -/
class AIC (P : Program) (k : Nat) (e : outParam Nat) : Prop where
  en : Enters P k
  h : ∀ (n u : Nat) (sv : Value) (xs : List Value) (w : World), u ≤ 9223372036854775807 → OwnR w e 1 sv n xs → n + 21 ≤ 140737488355328 → GlW w →
    Calls P k #[sv, .int .i64 u, .int .i64 10] w fun ex w' => ∃ v', ex = .returned v' ∧ Appended w e sv n xs (Lib.byteCells (Lib.decDigits u)) (Lib.decDigits u).length v' w'
section
variable {N : Nat} {dst : Option Tmp} {ty : TypeId} {pos : String} {af : Array Edge} {gd : Option (Nat × Bool)}
theorem T.appendInt {k id e L u : Nat} {cs : List D} {ts : Array TypeId} (x y z : Operand) (hc : AIC P k e) (hu : u ≤ 9223372036854775807) (hl : L + 21 ≤ 140737488355328) :
    Tri P N ⟨dst, .call { callee := .value (.func k), args := #[x, y, z], argTypes := ts }, ty, pos, af, gd⟩ [(x, .own id L), (y, .flat (.int .i64 u)), (z, .flat (.int .i64 10))] [(id, some (.row e 1 L cs))] (.own id (L + (Lib.decDigits u).length)) [(id, some (.row e 1 (L + (Lib.decDigits u).length) (cs ++ bD (Lib.decDigits u))))] := by
  refine ⟨?_⟩
  intro w0 M0 B0 s a w next Q h1 h2 hd ⟨g, hs⟩ hk
  have he := h2.1
  have hv := hs.vals h1
  obtain ⟨hu', vs, o1, o2⟩ := own_row hs he hv.1
  have hy : a.eval y = .int .i64 u := hv.2.one
  have hz : a.eval z = .int .i64 10 := hv.2.2.one
  refine opIn_enter (run_callS (ar := [x, y, z]) hc.en a.eval rfl w) ?_
  have := hc.h L u (a.eval x) vs w hu o1 hl hs.glw
  simp only [List.map_cons, List.map_nil, hy, hz]
  refine this.mono fun ex w' ⟨v', q1, p2, p3, p4, p5⟩ => ?_
  subst q1
  rw [hu'] at p3 p4 p5
  exact hk _ _ (hs.grown he o2 (bD_mk _) p2 p3 p4 p5 hd)
end
end Go.Dm

set_option linter.unusedSimpArgs false
set_option linter.unusedVariables false
set_option linter.unusedSectionVars false
set_option maxHeartbeats 400000
namespace Go.Dm
open Go Go.RowKit Go.PP
variable [GlobW] [Rnd]
section
variable {P : Program} {N : Nat} {dst : Option Tmp} {ty : TypeId} {pos : String} {af : Array Edge} {gd : Option (Nat × Bool)}
/-- A field of an element of a row. -/
theorem T.fieldElp' {id L off n k e en : Nat} {cs : List D} (t : TypeId) (x : Operand) (i : Nat) (h : FieldAt P t i k n) (h0 : n ≠ 0) :
    Tri P N ⟨dst, .fieldAddr t x i, ty, pos, af, gd⟩ [(x, .elp id L off)] [(id, some (.row e en L cs))] (.elp id L (off + k)) [] := Tri.read fun w0 M0 B0 g s a w hs he hv => by
  obtain ⟨fs, f, ht, hf, rfl, hn, _⟩ := h
  have h1 := hv.1
  simp only [Rep] at h1
  obtain ⟨g', σ', hG, h2, _⟩ := h1
  cases hG
  obtain ⟨b, h5, h6⟩ := (row_at he.1 h2).2 rfl
  refine ⟨.pointer (some ⟨b, off + f.offset, none⟩), w, by simp only [execOp, h6, Sem.run_bind, run_fieldAt (P := P) w ht hf hn h0, Result.andThen_ok, Sem.run_pure], Mut.refl _ w, ?_⟩
  simp only [Rep]
  exact ⟨g, s.σ, rfl, .inr ⟨_, _, _, _, he.1, Nat.le_refl _, fun _ => ⟨b, h5, rfl⟩⟩, _, rfl⟩
end
end Go.Dm

set_option linter.unusedSimpArgs false
set_option linter.unusedVariables false
set_option linter.unusedSectionVars false
set_option maxHeartbeats 400000
namespace Go.Dm
open Go Go.RowKit Go.PP
variable [GlobW] [Rnd]
class TyIf (P : Program) (t : TypeId) : Prop where
  h : P.underlying t = some (.interface (P.methodsAt t))
class TyCo (P : Program) (t : TypeId) : Prop where
  h : P.concrete t = true
/-- A type whose interface values are compared by their numbers. -/
class TyCi (P : Program) (t : TypeId) (k : outParam IntKind) : Prop where
  u : P.underlying t = some (.int k)
  c : (P.info? t).map (·.comparable) = some true
section
variable {P : Program} {N : Nat} {dst : Option Tmp} {ty : TypeId} {pos : String} {af : Array Edge} {gd : Option (Nat × Bool)}
theorem run_mkIf {t : TypeId} {v : Value} (w : World) (h : P.concrete t = true) (ρ : Operand → Value) (x : Operand) (hx : ρ x = v) : (execOp ρ ⟨dst, .makeInterface t x, ty, pos, af, gd⟩).run P w = .ok (.value (.iface t v)) w := by
  simp only [execOp, hx, Sem.run_bind, run_makeInterface w t v h, Result.andThen_ok, Sem.run_pure]
theorem T.mkIfF {t : TypeId} {v : Value} (x : Operand) (h : P.concrete t = true) : Tri P N ⟨dst, .makeInterface t x, ty, pos, af, gd⟩ [(x, .flat v)] [] (.flat (.iface t v)) [] := Tri.val fun M w G ρ hv =>
  ⟨.iface t v, run_mkIf w h ρ x hv.one, by simp only [Rep]⟩
theorem T.mkIfN {t : TypeId} {d : D} (x : Operand) (h : P.concrete t = true) : Tri P N ⟨dst, .makeInterface t x, ty, pos, af, gd⟩ [(x, d)] [] .ifn [] := Tri.val fun M w G ρ hv =>
  ⟨.iface t (ρ x), run_mkIf w h ρ x rfl, by simp only [Rep]; exact ⟨_, _, rfl⟩⟩
theorem T.neqIfN {t ty' : TypeId} {x y : Operand} (h : P.underlying t = some (.interface (P.methodsAt t))) : Tri P N ⟨dst, .binOp .neq t x y ty', ty, pos, af, gd⟩ [(x, .ifn), (y, .flat .nilIface)] [] (.flat (.bool true)) [] := Tri.val fun M w G ρ hv => by
  have h1 := hv.1
  simp only [Rep] at h1
  obtain ⟨u, v, hx⟩ := h1
  exact ⟨.bool true, by simp [execOp, hx, hv.2.one, eqGuard, binOp, run_equal_held_nil (P := P) w t u v h], by simp only [Rep]⟩
theorem T.neqIfV {t ty' u : TypeId} {v : Value} {x y : Operand} (h : P.underlying t = some (.interface (P.methodsAt t))) : Tri P N ⟨dst, .binOp .neq t x y ty', ty, pos, af, gd⟩ [(x, .flat (.iface u v)), (y, .flat .nilIface)] [] (.flat (.bool true)) [] := Tri.val fun M w G ρ hv => by
  have h1 := hv.1
  simp only [Rep] at h1
  exact ⟨.bool true, by simp [execOp, h1, hv.2.one, eqGuard, binOp, run_equal_held_nil (P := P) w t u v h], by simp only [Rep]⟩
theorem T.neqIfZ {t ty' : TypeId} {x : Operand} (h : P.underlying t = some (.interface (P.methodsAt t))) : Tri P N ⟨dst, .binOp .neq t x (.const .nilIface) ty', ty, pos, af, gd⟩ [(x, .flat .nilIface), (.const .nilIface, .flat .nilIface)] [] (.flat (.bool false)) [] := Tri.val fun M w G ρ hv =>
  ⟨.bool false, by simp [execOp, hv.one, hv.2.one, eqGuard, binOp, run_equal_nil_nil (P := P) w t h], by simp only [Rep]⟩
theorem run_eqIfD (d : Nat) {t u : TypeId} {k : IntKind} {a b : Int} {i : TypeInfo} (w : World) (h : P.underlying t = some (.interface (P.methodsAt t))) (hu : P.underlying u = some (.int k)) (hi : P.info? u = some i) (hci : i.comparable = true) : (Op.equalIn (d + 2) t (.iface u (.int k a)) (.iface u (.int k b))).run P w = .ok (decide (a = b)) w := by
  simp [Op.equalIn, run_underlying h, run_underlying hu, typeInfo, hi, hci]
  exact Bool.beq_eq_decide_eq a b
theorem run_eqIfI {t u : TypeId} {k : IntKind} {a b : Int} {i : TypeInfo} (w : World) (h : P.underlying t = some (.interface (P.methodsAt t))) (hu : P.underlying u = some (.int k)) (hi : P.info? u = some i) (hci : i.comparable = true) : (Op.equal t (.iface u (.int k a)) (.iface u (.int k b))).run P w = .ok (decide (a = b)) w := run_eqIfD 9998 w h hu hi hci
theorem T.eqlIfI {t ty' u : TypeId} {k : IntKind} {a b : Int} {x y : Operand} (h : P.underlying t = some (.interface (P.methodsAt t))) (hu : P.underlying u = some (.int k)) (hc : (P.info? u).map (·.comparable) = some true) : Tri P N ⟨dst, .binOp .eql t x y ty', ty, pos, af, gd⟩ [(x, .flat (.iface u (.int k a))), (y, .flat (.iface u (.int k b)))] [] (.flat (.bool (decide (a = b)))) [] := Tri.val fun M w G ρ hv => by
  obtain ⟨i, hi, hci⟩ : ∃ i, P.info? u = some i ∧ i.comparable = true := by
    cases hq : P.info? u with
    | none => rw [hq] at hc; cases hc
    | some i => rw [hq] at hc; exact ⟨i, rfl, by simpa using hc⟩
  have hx : ρ x = .iface u (.int k a) := hv.one
  have hy : ρ y = .iface u (.int k b) := hv.2.one
  refine ⟨.bool (decide (a = b)), ?_, by simp only [Rep]⟩
  simp only [execOp, hx, hy]
  simp [eqGuard, binOp, run_eqIfI (P := P) w h hu hi hci]
theorem T.cutHL' {f : Bool} {n len e : Nat} {lo hi : Int} {l h : Nat} {k k2 : IntKind} {cs : List D} (t : TypeId) (x y z : Operand) (ht : P.underlying t = some (.slice e)) (hn : sizeOfT P e = some n) (n1 : IsN lo l) (n2 : IsN hi h) (h1 : l ≤ h) (h2 : h ≤ len) :
    Tri P N ⟨dst, .slice t x (some y) (some z) none, ty, pos, af, gd⟩ [(x, .sl f n len cs), (y, .flat (.int k lo)), (z, .flat (.int k2 hi))] [] (.sl false n (h - l) ((cs.drop (l * n)).take ((h - l) * n))) [] := by
  obtain ⟨rfl⟩ := n1
  obtain ⟨rfl⟩ := n2
  refine Tri.val fun M w G ρ hv => ?_
  have q1 := hv.1
  have q2 := hv.2.one
  have q3 := hv.2.2.one
  have q1' := q1
  simp only [Rep] at q1
  obtain ⟨a, cap, r1, r2, _⟩ := q1
  have hr := run_slice_lh (P := P) w t a len cap (by rw [P_elem ht]; exact ht) k k2 l h (by omega) (by omega) (by omega)
  rw [P_elem ht, run_sizeOf hn] at hr
  simp only [Result.andThen_ok, Int.toNat_natCast] at hr
  rw [r1] at q1'
  have hrep := sliced_rep (lo := l) (hi := h) q1' h1 h2
  refine ⟨_, ?_, hrep⟩
  simp only [execOp, r1, q2, q3, Option.map_none, Option.map_some, Sem.run_bind, run_cut (P := P) (n := n) ht hr, Result.andThen_ok, Sem.run_pure]
theorem ResOk.three {fn : Func} {s : DS} {t u v : Tmp} {d d' e e' f f' : D} (pe : Sg) (hr : fn.results = #[.tmp t, .tmp u, .tmp v]) (hd : lkF s.f t = d) (hd2 : lkF s.f u = e) (hd3 : lkF s.f v = f) (he : Ens s.σ pe) (h : Vw pe d d') (h2 : Vw pe e e') (h3 : Vw pe f f') : ResOk P fn s (.tup [d', e', f']) := fun w0 M0 B0 N g a w hs =>
  ⟨.tuple #[a.tmps.getD t undef, a.tmps.getD u undef, a.tmps.getD v undef], by simp [results, hr], by
    simp only [Rep]
    refine ⟨[_, _, _], rfl, ?_⟩
    simp only [RepL]
    exact ⟨_, _, rfl, h.out hs he (by rw [← hd]; exact hs.tm t), _, _, rfl, h2.out hs he (by rw [← hd2]; exact hs.tm u), _, _, rfl, h3.out hs he (by rw [← hd3]; exact hs.tm v), rfl⟩⟩
theorem ResOk.cellTmp2 {fn : Func} {s : DS} {x u v : Tmp} {t id n : Nat} {bb : Bool} {cs : List D} {d d' e e' f f' : D} (pe : Sg) (hr : fn.results = #[.cell x t, .tmp u, .tmp v]) (hx : lkF s.f x = .ref id 0) (hi : lkE s.σ id = some (.box cs)) (hb : aggOf P t = some bb) (hn : sizeOfT P t = some n) (hd : partD bb n 0 cs = some d) (hu : lkF s.f u = e) (hv : lkF s.f v = f) (he : Ens s.σ pe) (h : Vw pe d d') (h2 : Vw pe e e') (h3 : Vw pe f f') (hk : keysOf cs = none := by first | rfl | assumption) : ResOk P fn s (.tup [d', e', f']) := fun w0 M0 B0 N g a w hs => by
  have h0 := hs.tm x
  rw [hx] at h0
  obtain ⟨ad, v', h1, h4, h5⟩ := run_loadBox (P := P) hs hi hb hn hd hk h0
  rw [Array.getD_eq_getD_getElem?] at h1
  refine ⟨.tuple #[v', a.tmps.getD u undef, a.tmps.getD v undef], by simp [results, hr, h1, h4], ?_⟩
  simp only [Rep]
  refine ⟨[_, _, _], rfl, ?_⟩
  simp only [RepL]
  exact ⟨_, _, rfl, h.out hs he h5, _, _, rfl, h2.out hs he (by rw [← hu]; exact hs.tm u), _, _, rfl, h3.out hs he (by rw [← hv]; exact hs.tm v), rfl⟩
/-- A loop that leaves by its block's exit: what stands behind it. -/
theorem DW.cutB {id : Nat} {c y : Code} {s : DS} {Q : Exit → DS → Prop} (S2 : DS) (h1 : DW P N c s (Blk id (fun e s => e = .normal ∧ Sub N s S2))) (h2 : DW P N y S2 Q) : DW P N c s (Blk id (Thn (fun s' => DW P N y s' Q) Q)) := h1.mono fun e s' q => by
  cases e with
  | normal => exact DW.sub q.2 h2
  | exit id' =>
    simp only [Blk] at q ⊢
    by_cases he : id' = id
    · rw [if_pos he] at q ⊢
      exact DW.sub q.2 h2
    · rw [if_neg he] at q
      exact absurd q.1 (by simp)
  | _ => exact absurd q.1 (by simp)
end
end Go.Dm
