/- Contracts of the two closures of some. Condition: a valid automaton and lists in memory. -/
import Derived.Test.YtdakoccbmeojhaaWs
import Derived.Test.YtdakoccbmeojhaaPc
set_option linter.unusedSimpArgs false
set_option linter.unusedVariables false
set_option maxHeartbeats 400000
namespace Go.Proofs.Ytdakoccbmeojhaa
open Go Go.RowKit Go.PP

set_option maxRecDepth 8000 in
set_option maxHeartbeats 4000000 in
theorem some1_any (A : Au) (hok : AuOk A) (old ix ds : List Int) (i : Nat) (v1 v2 v3 vo vs vl : Value) (bo bs ba : Nat) (w : World)
    (ho : w.cell? ⟨bo, 0, none⟩ = some vo) (hs : w.cell? ⟨bs, 0, none⟩ = some vs) (hb : BoxA ba v1 v2 v3 w) (hA : AuIn (fun _ => False) w v1 v2 v3 A)
    (hio : Ints (fun _ => False) w vo old) (his : Ints (fun _ => False) w vs ix) (hil : Ints (fun _ => False) w vl ds) (hla : ix.length = A.final.length)
    (hds : ∀ d ∈ ds, 0 ≤ d ∧ d < (old.length : Int)) (hl2 : ds.length ≤ 2) (hf : Fits A i (ds.map fun d => old.getD d.toNat 0)) :
    Calls Try.prog 77 #[.int .i64 i, vl, .pointer (some ⟨bo, 0, none⟩), .pointer (some ⟨bs, 0, none⟩), .pointer (some ⟨ba, 0, none⟩)] w
      (RetPost w (.int .i64 (ix.getD (atI A i (ds.map fun d => old.getD d.toNat 0)).toNat 0))) := by
  have hio0 := Lib.hid hio
  have his0 := Lib.hid his
  have hil0 := Lib.hid hil
  have hA0 := Lib.hid hA
  obtain ⟨xo, co, rfl, lo⟩ := hio.open'
  obtain ⟨xs, cs, rfl, ls⟩ := his.open'
  obtain ⟨xl, cl, rfl, ll⟩ := hil.open'
  obtain ⟨a1, c1, a2, c2, a3, c3, rfl, rfl, rfl, -, -, -⟩ := hA.open
  obtain ⟨k0, k1, k2⟩ := hb
  obtain ⟨-, -, -, q, -, -, -, -, -, -, hat, hq0, hq1, -⟩ := hf.at hok
  rw [hat]
  replace hat := Lib.hid hat
  replace hds := Lib.hid hds
  replace hf := Lib.hid hf
  replace hok := Lib.hid hok
  obtain ⟨qn, rfl⟩ := Int.eq_ofNat_of_zero_le hq0
  have hqa : qn < ix.length := by omega
  obtain ⟨b7, off7, yq, rfl, hy, hcyq⟩ := his0.out.slot (Mut.refl _ w) hqa
  have hyy : ix.getD qn 0 = yq := by simp [List.getD, hy]
  rw [Int.toNat_natCast, hyy]
  clear hyy hy
  have hst := Lib.hid (show w.ownsRow w.heap.size 3 1 (.slice none 0 0) 0 (((ds.map fun d => old.getD d.toNat 0).take 0).map (Value.int .i64)) from World.ownsRow_nil _ _ _ _)
  clear hio his hil hA hq0 hq1
  go_enter Try.func77, Try.ntmps77
  go_wp2
  go_loopw [8, 13] (fun l i wr => ∃ j : Nat, j ≤ ds.length ∧ i = .int .i64 j ∧ Fix w wr ∧ wr.ownsRow w.heap.size 3 1 l j (((ds.map fun d => old.getD d.toNat 0).take j).map (Value.int .i64))) (fun _ i _ => ds.length - (intOf i).toNat)
  case atStart => exact ⟨0, by omega, rfl, Mut.refl _ _, hst.out⟩
  case round =>
    clear hst
    obtain ⟨j, hj, rfl, hm, hrow⟩ := hrel
    by_cases hlt : j < ds.length
    · obtain ⟨b5, off5, x, rfl, hx, hcx⟩ := hil0.out.slot hm hlt
      obtain ⟨hx0, hx1⟩ := hds.out x (List.mem_of_getElem? hx)
      obtain ⟨xn, rfl⟩ := Int.eq_ofNat_of_zero_le hx0
      obtain ⟨b6, off6, y, rfl, hy, hcy⟩ := hio0.out.slot hm (k := xn) (by omega)
      have ho1 := hm.cell ho (by simp)
      have hsn := Lib.hid (show ((ds.map fun d => old.getD d.toNat 0).take (j + 1)).map (Value.int .i64) = ((ds.map fun d => old.getD d.toNat 0).take j).map (Value.int .i64) ++ [.int .i64 y] by
        have h1 : (ds.map fun d => old.getD d.toNat 0)[j]? = some y := by simp [hx, List.getD, hy]
        obtain ⟨h2, h3⟩ := List.getElem?_eq_some_iff.1 h1
        rw [List.take_succ_eq_append_getElem h2, List.map_append, h3]; rfl)
      have hlp : (((ds.map fun d => old.getD d.toNat 0).take j).map (Value.int .i64)).length = j := by simp; omega
      generalize ((ds.map fun d => old.getD d.toNat 0).take j).map (Value.int .i64) = zs at *
      subst hlp
      obtain ⟨va, vc, rfl⟩ := ownsRow_slice hrow
      have hrw := Lib.hid (ownsRow_mut hrow ((Mut.refl (fun _ => False) wr).alloc (.cells #[.int .i64 y] 3)) (by simp))
      have hm2 := Lib.hid (hm.alloc (.cells #[.int .i64 y] 3))
      have hbx := Lib.hid (cell_new1 wr (.int .i64 y) 3)
      have hzz := Lib.hid hm2.out.size
      clear hrow hm hx hy
      go_wp2_with (at_builtin; refine wpList_push rfl _ _ 22 rfl Try.underlying22 info3 rfl (.slice va zs.length vc) zs (.int .i64 y) rfl hrw.out _ rfl (by exact hbx.out) rfl (by omega) (by decide) (by exact hzz.out) ?_; intro v5 w5 ho5 hg5 hb5; obtain ⟨a5, c5, rfl⟩ := ownsRow_slice ho5)
      have hE := Lib.hid (And.intro (Mut.grown hm2.out hg5 (fun k hk h => by have := (hrw.out.lt k hk).1; omega)) ho5)
      clear hg5 hb5 ho5
      go_wp2
      go_roundw
      case rel => exact ⟨zs.length + 1, by omega, by go_num, hE.out.1, by have h := hE.out.2; rw [hsn.out]; simpa using h⟩
      case measure => simp [intOf]; omega
    · obtain rfl : j = ds.length := by omega
      obtain ⟨va, vc, rfl⟩ := ownsRow_slice hrow
      have hin := Lib.hid (show Ints (fun _ => False) wr (.slice va ds.length vc) (ds.map fun d => old.getD d.toNat 0) from by
        have h := hrow
        rw [List.take_of_length_le (by simp)] at h
        exact ints_of_own (by simpa using h) (by simp))
      have hat2 := Lib.hid (fun w3 (m : Fix w w3) (hh : Ints (fun _ => False) w3 (.slice va ds.length vc) (ds.map fun d => old.getD d.toNat 0)) => at_any _ _ _ _ A i _ w3 (hA0.out.fix m) hok.out hh hf.out)
      rw [hat.out] at hat2
      have hS := Lib.hid (show Fix w wr.drew from hm.drew)
      have hin2 := Lib.hid (hin.out.fix (Mut.refl _ wr).drew)
      have hne := Cls.ne hS.out
      clear hrow hm hin
      go_wp2
      refine wp_plan (Fix w) [0, 1, 2, 3, 4] [([0, 1, 2, 3], some 4)] [5, 6, 7] (by kernel_rfl) (by kernel_rfl) ?_
      refine ⟨Of.mk hS.out, ?_⟩
      simp only [wpPlan, pickOps_cons, pickOps_nil, List.getElem?_cons_zero, List.getElem?_cons_succ, pickOp_some]
      have s0 := fun x : Cls (Fix w) => x.ok.cell k0 (by simp)
      have s1 := fun x : Cls (Fix w) => x.ok.cell k1 (by simp)
      have s2 := fun x : Cls (Fix w) => x.ok.cell k2 (by simp)
      have s3 := fun x : Cls (Fix w) => x.ok.cell hs (by simp)
      repeat (go_big_quiet_step (fail))
      refine wpQuiet_nil ?_
      clear s0 s1 s2 s3
      go_wp2_with fail
      refine (hat2.out _ hS.out hin2.out).mono ?_
      rintro e w2 ⟨rfl, m2⟩
      have hS2 := Lib.hid (hS.out.trans m2)
      have hcy2 := hS2.out.cell hcyq (by simp)
      clear m2
      go_wp2
      refine ⟨fun _ => Of.mk hS2.out, ?_⟩
      go_wp2
      refine NoPanic.normal ?_
      go_wp2
      go_ret
      exact ⟨rfl, hS2.out⟩

set_option maxRecDepth 8000 in
set_option maxHeartbeats 4000000 in
theorem some2_any (A : Au) (old : List Int) (s : Nat) (v1 v2 v3 vo : Value) (bo ba : Nat) (w : World)
    (ho : w.cell? ⟨bo, 0, none⟩ = some vo) (hb : BoxA ba v1 v2 v3 w) (hA : AuIn (fun _ => False) w v1 v2 v3 A)
    (hio : Ints (fun _ => False) w vo old) (hs : s < old.length) (hold : ∀ d ∈ old, 0 ≤ d ∧ d < (A.final.length : Int)) :
    Calls Try.prog 78 #[.int .i64 s, .pointer (some ⟨ba, 0, none⟩), .pointer (some ⟨bo, 0, none⟩)] w (RetPost w (.bool (keptF A old s))) := by
  have hio0 := Lib.hid hio
  have hA0 := Lib.hid hA
  obtain ⟨xo, co, rfl, lo⟩ := hio.open'
  obtain ⟨a1, c1, a2, c2, a3, c3, rfl, rfl, rfl, -, -, -⟩ := hA.open
  obtain ⟨k0, k1, k2⟩ := hb
  obtain ⟨b6, off6, y, rfl, hy, hcy⟩ := hio0.out.slot (Mut.refl _ w) hs
  obtain ⟨hy0, hy1⟩ := hold y (List.mem_of_getElem? hy)
  obtain ⟨yn, rfl⟩ := Int.eq_ofNat_of_zero_le hy0
  obtain ⟨b7, off7, z, rfl, hz, hcz⟩ := hA0.out.f.slot (Mut.refl _ w) (k := yn) (by omega)
  have hkf : keptF A old s = z := by simp [keptF, List.getD, hy, hz]
  rw [hkf]
  have hyl : yn < A.final.length := by omega
  clear hkf hy hz hold hio hA hy0 hy1
  go_enter Try.func78, Try.ntmps78
  go_wp2
  go_quiet (fail)
  go_wp2
  go_ret
  exact ⟨rfl, (Mut.refl _ _).drewN _⟩
end Go.Proofs.Ytdakoccbmeojhaa
