/- Contracts over data: states, widths, bad states. No condition. -/
import Derived.Test.YtichhfbkhnimmaaVDA
set_option linter.unusedSimpArgs false
set_option linter.unusedVariables false
set_option maxHeartbeats 4000000
set_option maxRecDepth 8000
namespace Go.Proofs.Ytichhfbkhnimmaa
open Go Go.RowKit Go.PP Go.Dm Go.Rt Go.Mn
theorem x2_ (A:Au) (s:Int):DFun Try.prog 68 [auD A,.flat (.int .i64 s)] (.flat (.bool (decide (0≤s∧s<(A.f.length:Int))))):=by
 obtain⟨rs,fs,tt⟩:=A
 rw [e3_]
 generalize (rs.map fun x=>D.flat (.int .i64 x))=LR
 generalize (fs.map fun x=>D.flat (.bool x))=LB
 generalize aj_ tt=LT
 refine DFun.enterA Try.func68 Try.ntmps68 ?_
 by_cases h:0≤s
 ·have e:D.flat (.bool (decide (s<(fs.length:Int))))=D.flat (.bool (decide (0≤s∧s<(fs.length:Int)))):=by
   rw [decide_eq_decide.2 (⟨fun h2=>⟨h,h2⟩,fun h2=>h2.2⟩:s<(fs.length:Int)↔0≤s∧s<(fs.length:Int))]
  refine DW.walk ?_
  exact⟨.inr rfl,ResOk.one [] rfl rfl trivial (Vw.le (Vw.pers rfl) (Le.of_eq (e)))⟩
 ·rw [decide_eq_false (show ¬ (0≤s∧s<(fs.length:Int)) from fun h2=>h h2.1)]
  refine DW.walk ?_
  exact⟨.inr rfl,ResOk.one [] rfl rfl trivial (Vw.pers rfl)⟩
theorem tt_ (A:Au) (s:Int):DFun Try.prog 91 [.flat (.int .i64 s),.ptr (auC A) 0] (.flat (.bool (!decide (0≤s∧s<(A.f.length:Int))))):=by
 have hs:=x2_ A s
 obtain⟨rs,fs,tt⟩:=A
 simp only [e3_,mf_] at*
 generalize (rs.map fun x=>D.flat (.int .i64 x))=LR at*
 generalize (fs.map fun x=>D.flat (.bool x))=LB at*
 generalize aj_ tt=LT at*
 refine DFun.enterA Try.func91 Try.ntmps91 ?_
 refine DW.walk ?_
 exact⟨.inr rfl,ResOk.one [] rfl rfl trivial (Vw.pers rfl)⟩
theorem rv_ (A:Au) (l:List Int) (hl:l.length≤1000000000) (j:Nat) (x:Int) (h1:l[j]?=some x) (h2:¬ (0≤x∧x<(A.f.length:Int))) (h3:∀ i y,i<j→l[i]?=some y→0≤y∧y<(A.f.length:Int)):DFun Try.prog 119 [.sl false 1 l.length (l.map fun x=>D.flat (.int .i64 x)),.clo (.func 91) [] [.ptr (auC A) 0]] (.flat (.int .i64 ((j:Nat):Int))):=by
 have hb:=tt_ A
 have hjl:=(List.getElem?_eq_some_iff.1 h1).1
 have hlp:=ab_ l
 have hpt:∀ (i:Nat) (x:Int),l[i]?=some x→partD false 1 (i*1) (l.map fun x=>D.flat (.int .i64 x))=some (.flat (.int .i64 x)):=fun i x h=>an_ h
 generalize (l.map fun x=>D.flat (.int .i64 x))=L at*
 obtain⟨rs,fs,tt⟩:=A
 simp only [e3_,mf_] at*
 generalize (rs.map fun x=>D.flat (.int .i64 x))=LR at*
 generalize (fs.map fun x=>D.flat (.bool x))=LB at*
 generalize aj_ tt=LT at*
 refine DFun.enterA Try.func119 Try.ntmps119 ?_
 refine DW.walk ?_
 refine DW.loopA (fun i:Nat=>⟨[(0,.sl false 1 l.length L),(1,.clo (.func 91) [] [.ptr [.sl false 1 rs.length LR,.sl false 1 fs.length LB,.sl false 1 tt.length LT] 0]),(6,.sl false 1 l.length L),(7,.flat (.int .i64 ((l.length:Nat):Int))),(8,.flat (.int .i64 ((i:Nat):Int)))],[]⟩) (fun i=>i≤j) (fun i=>j - i) 0 ?_ (Nat.zero_le _)
 intro i hi
 rcases Nat.lt_or_ge i j with hlt|hge
 ·obtain⟨y,hy⟩:∃ y,l[i]?=some y:=⟨_,List.getElem?_eq_getElem (by omega)⟩
  have hp:=hpt i y hy
  have hby:=hb y
  rw [decide_eq_true (h3 i y hlt hy)] at hby
  clear hpt hb h1 h2 h3
  refine DW.walk ?_
  exact⟨i+1,by omega,by omega,Sub.auto⟩
 ·obtain rfl:i=j:=by omega
  have hp:=hpt i x h1
  have hby:=hb x
  rw [decide_eq_false h2] at hby
  clear hpt hb h1 h2 h3
  refine DW.walk ?_
  exact⟨.inr rfl,ResOk.one [] rfl rfl trivial (Vw.pers rfl)⟩
theorem rx_ (A:Au) (l:List Int) (hl:l.length≤1000000000) (h3:∀ (i:Nat) y,l[i]?=some y→0≤y∧y<(A.f.length:Int)):DFun Try.prog 119 [.sl false 1 l.length (l.map fun x=>D.flat (.int .i64 x)),.clo (.func 91) [] [.ptr (auC A) 0]] (.flat (.int .i64 (-1))):=by
 have hb:=tt_ A
 have hlp:=ab_ l
 have hpt:∀ (i:Nat) (x:Int),l[i]?=some x→partD false 1 (i*1) (l.map fun x=>D.flat (.int .i64 x))=some (.flat (.int .i64 x)):=fun i x h=>an_ h
 generalize (l.map fun x=>D.flat (.int .i64 x))=L at*
 obtain⟨rs,fs,tt⟩:=A
 simp only [e3_,mf_] at*
 generalize (rs.map fun x=>D.flat (.int .i64 x))=LR at*
 generalize (fs.map fun x=>D.flat (.bool x))=LB at*
 generalize aj_ tt=LT at*
 refine DFun.enterA Try.func119 Try.ntmps119 ?_
 refine DW.walk ?_
 refine DW.loopA (fun i:Nat=>⟨[(0,.sl false 1 l.length L),(1,.clo (.func 91) [] [.ptr [.sl false 1 rs.length LR,.sl false 1 fs.length LB,.sl false 1 tt.length LT] 0]),(6,.sl false 1 l.length L),(7,.flat (.int .i64 ((l.length:Nat):Int))),(8,.flat (.int .i64 ((i:Nat):Int)))],[]⟩) (fun i=>i≤l.length) (fun i=>l.length - i) 0 ?_ (Nat.zero_le _)
 intro i hi
 rcases Nat.lt_or_ge i l.length with hlt|hge
 ·obtain⟨y,hy⟩:∃ y,l[i]?=some y:=⟨_,List.getElem?_eq_getElem (by omega)⟩
  have hp:=hpt i y hy
  have hby:=hb y
  rw [decide_eq_true (h3 i y hy)] at hby
  clear hpt hb h3
  refine DW.walk ?_
  exact⟨i+1,by omega,by omega,Sub.auto⟩
 ·obtain rfl:i=l.length:=by omega
  clear hpt hb h3
  refine DW.walk ?_
  exact⟨.inr rfl,ResOk.one [] rfl rfl trivial (Vw.pers rfl)⟩
theorem ug_ (A:Au) (l:List Int) (hl:l.length≤1000000000) (b:Bool) (h:b=true∧(∃ s∈l,s<0∨(A.f.length:Int)≤s)∨b=false∧ ¬ ∃ s∈l,s<0∨(A.f.length:Int)≤s):DFun Try.prog 90 [.sl false 1 l.length (l.map fun x=>D.flat (.int .i64 x)),.clo (.func 91) [] [.ptr (auC A) 0]] (.flat (.bool b)):=by
 rcases h with⟨rfl,h⟩| ⟨rfl,h⟩
 ·have:∃ j:Nat,∃ x,l[j]?=some x∧ ¬ (0≤x∧x<(A.f.length:Int)):=by
   obtain⟨s,hs,h⟩:=h
   obtain⟨j,hj⟩:=List.getElem?_of_mem hs
   exact⟨j,s,hj,by omega⟩
  obtain⟨j,⟨x,h1,h2⟩,h3⟩:=dz_ this
  have hi:=rv_ A l hl j x h1 h2 fun i y hij hy=>Classical.byContradiction fun hn=>h3 i hij ⟨y,hy,hn⟩
  clear h1 h2 h3 this h
  rw [d1_] at*
  generalize (l.map fun x=>D.flat (.int .i64 x))=L at*
  refine DFun.enterA Try.func90 Try.ntmps90 ?_
  have e:D.flat (.bool (decide ((0:Int)≤(j:Int))))=D.flat (.bool true):=by rw [decide_eq_true (by omega)]
  refine DW.walk ?_
  exact⟨.inr rfl,ResOk.one [] rfl rfl trivial (Vw.le (Vw.pers rfl) (Le.of_eq (e)))⟩
 ·have hi:=rx_ A l hl fun i y hy=>Classical.byContradiction fun hn=>h ⟨y,List.mem_of_getElem? hy,by omega⟩
  clear h
  rw [d1_] at*
  generalize (l.map fun x=>D.flat (.int .i64 x))=L at*
  refine DFun.enterA Try.func90 Try.ntmps90 ?_
  refine DW.walk ?_
  exact⟨.inr rfl,ResOk.one [] rfl rfl trivial (Vw.pers rfl)⟩
theorem pw_ (k n:Nat) (hk:k≤2) (hn:n≤512):DFun Try.prog 89 [.flat (.int .i64 ((k:Nat):Int)),.flat (.int .i64 ((n:Nat):Int))] (.flat (.int .i64 ((ba_ (k:Int) n:Nat):Int))):=by
 have hw:ba_ (k:Int) n=n ^ k:=by unfold ba_;rw [Int.toNat_natCast]
 rw [hw]
 refine DFun.enterA Try.func89 Try.ntmps89 ?_
 refine DW.walk ?_
 refine DW.loopA (fun i:Nat=>⟨[(1,.flat (.int .i64 ((n:Nat):Int))),(5,.flat (.int .i64 ((n ^ i:Nat):Int))),(6,.flat (.int .i64 ((k:Nat):Int))),(7,.flat (.int .i64 ((i:Nat):Int)))],[]⟩) (fun i=>i≤k) (fun i=>k - i) 0 ?_ (Nat.zero_le _)
 intro i hi
 rcases Nat.lt_or_ge i k with hlt|hge
 ·have hm:IntKind.i64.wrap (((n ^ i:Nat):Int)*(n:Int))=((n ^ (i+1):Nat):Int):=by
   rw [← Int.natCast_mul,← Nat.pow_succ]
   have h1:n ^ (i+1)≤262144:=Nat.le_trans (Nat.pow_le_pow_left hn _) (Nat.le_trans (Nat.pow_le_pow_right (by decide) (show i+1≤2 by omega)) (by decide))
   show IntKind.i64.wrap ((n ^ (i+1):Nat):Int)=((n ^ (i+1):Nat):Int)
   generalize n ^ (i+1)=q at*
   rw [IntKind.wrap_i64];omega
  refine DW.walk ?_
  exact⟨i+1,by omega,by omega,Sub.auto⟩
 ·obtain rfl:i=k:=by omega
  refine DW.walk ?_
  exact⟨.inr rfl,ResOk.one [] rfl rfl trivial (Vw.pers rfl)⟩
theorem v0_ (rs:List Int) (fs:List Bool) (tt:List (List Int)) (LR LB LT:List D) (hr:rs.length≤1000000) (hf:fs.length≤1000000) (ht:tt.length≤1000000) (hLR:persL LR=true) (hLB:persL LB=true) (hLT:persL LT=true)
  (hpr:∀ (i:Nat) (x:Int),rs[i]?=some x→partD false 1 (i*1) LR=some (.flat (.int .i64 x))) (hpt:∀ (i:Nat) (r:List Int),tt[i]?=some r→partD false 1 (i*1) LT=some (.sl false 1 r.length (r.map fun x=>D.flat (.int .i64 x))))
  (c88:DFun Try.prog 88 [.sl false 1 rs.length LR] (.flat (.int .i64 0))) (c2:¬ (fs.length<1∨512<fs.length)) (c3:tt.length=rs.length) (hrk:∀ k∈rs,0≤k∧k≤2) (j:Nat) (r0:List Int) (k0:Int) (h1:tt[j]?=some r0) (h2:rs[j]?=some k0) (h3:r0.length≠ba_ k0 fs.length) (h4:∀ (i:Nat) (l:List Int) (k:Int),i<j→tt[i]?=some l→rs[i]?=some k→l.length=ba_ k fs.length) (hrl:∀ l∈tt,l.length≤1000000):DFun Try.prog 47 [.agg [.sl false 1 rs.length LR,.sl false 1 fs.length LB,.sl false 1 tt.length LT]] (.flat (.int .i64 3)):=by
 have hf1:¬ fs.length<1:=by omega
 have hf2:¬ 512<fs.length:=by omega
 have hjl:=(List.getElem?_eq_some_iff.1 h1).1
 refine DFun.enterA Try.func47 Try.ntmps47 ?_
 refine DW.walkTo 1 ?_
 refine DW.sub (s':=⟨[(1,.ptr [.sl false 1 rs.length LR,.sl false 1 fs.length LB,.sl false 1 tt.length LT] 0),(2,.flat (.int .i64 0))],[]⟩) Sub.auto ?_
 refine DW.walk ?_
 refine DW.loopA (fun i:Nat=>⟨[(1,.ptr [.sl false 1 rs.length LR,.sl false 1 fs.length LB,.sl false 1 tt.length LT] 0),(4,.flat (.int .i64 ((fs.length:Nat):Int))),(32,.sl false 1 tt.length LT),(33,.flat (.int .i64 ((tt.length:Nat):Int))),(34,.flat (.int .i64 ((i:Nat):Int)))],[]⟩) (fun i=>i≤j) (fun i=>j - i) 0 ?_ (Nat.zero_le _)
 intro i hi
 clear c88
 rcases Nat.lt_or_ge i j with hlt|hge
 ·obtain⟨r,hri⟩:∃ r,tt[i]?=some r:=⟨_,List.getElem?_eq_getElem (by omega)⟩
  obtain⟨k,hki⟩:∃ k,rs[i]?=some k:=⟨_,List.getElem?_eq_getElem (by omega)⟩
  have hk2:=hrk k (List.mem_of_getElem? hki)
  obtain⟨m,rfl⟩:∃ m:Nat,k=(m:Int):=⟨k.toNat,by omega⟩
  have hp1:=hpr i _ hki
  have hp2:=hpt i _ hri
  have hw:=pw_ m fs.length (by omega) (by omega)
  have hq:=h4 i _ _ hlt hri hki
  have hrlen:=hrl _ (List.mem_of_getElem? hri)
  generalize ba_ (m:Int) fs.length=q at*
  clear hpr hpt hrk h1 h2 h3 h4 hri hki
  refine DW.walk ?_
  exact⟨i+1,by omega,by omega,Sub.auto⟩
 ·obtain rfl:i=j:=by omega
  have hk2:=hrk k0 (List.mem_of_getElem? h2)
  obtain⟨m,rfl⟩:∃ m:Nat,k0=(m:Int):=⟨k0.toNat,by omega⟩
  have hp1:=hpr i _ h2
  have hp2:=hpt i _ h1
  have hw:=pw_ m fs.length (by omega) (by omega)
  have hrlen:=hrl _ (List.mem_of_getElem? h1)
  generalize ba_ (m:Int) fs.length=q at*
  clear hpr hpt hrk h1 h2 h4
  refine DW.walk ?_
  exact⟨.inr rfl,ResOk.one [] rfl rfl trivial (Vw.pers rfl)⟩
theorem ot_ (rs:List Int) (fs:List Bool) (tt:List (List Int)) (LR LB LT:List D) (hr:rs.length≤1000000) (hf:fs.length≤1000000) (ht:tt.length≤1000000) (hLR:persL LR=true) (hLB:persL LB=true) (hLT:persL LT=true)
  (hpr:∀ (i:Nat) (x:Int),rs[i]?=some x→partD false 1 (i*1) LR=some (.flat (.int .i64 x))) (hpt:∀ (i:Nat) (r:List Int),tt[i]?=some r→partD false 1 (i*1) LT=some (.sl false 1 r.length (r.map fun x=>D.flat (.int .i64 x))))
  (c88:DFun Try.prog 88 [.sl false 1 rs.length LR] (.flat (.int .i64 0))) (c2:¬ (fs.length<1∨512<fs.length)) (c3:tt.length=rs.length) (hrk:∀ k∈rs,0≤k∧k≤2) (h4:∀ (i:Nat) (l:List Int) (k:Int),tt[i]?=some l→rs[i]?=some k→l.length=ba_ k fs.length) (hrl:∀ l∈tt,l.length≤1000000) (j:Nat) (e:Int) (hj:j<tt.length∧e=2∨j=tt.length∧e=0) (g1:∀ (i:Nat) (l:List Int),i<j→tt[i]?=some l→DFun Try.prog 90 [.sl false 1 l.length (l.map fun x=>D.flat (.int .i64 x)),.clo (.func 91) [] [.ptr [.sl false 1 rs.length LR,.sl false 1 fs.length LB,.sl false 1 tt.length LT] 0]] (.flat (.bool false))) (g2:∀ l,tt[j]?=some l→DFun Try.prog 90 [.sl false 1 l.length (l.map fun x=>D.flat (.int .i64 x)),.clo (.func 91) [] [.ptr [.sl false 1 rs.length LR,.sl false 1 fs.length LB,.sl false 1 tt.length LT] 0]] (.flat (.bool true))):DFun Try.prog 47 [.agg [.sl false 1 rs.length LR,.sl false 1 fs.length LB,.sl false 1 tt.length LT]] (.flat (.int .i64 e)):=by
 have hf1:¬ fs.length<1:=by omega
 have hf2:¬ 512<fs.length:=by omega
 refine DFun.enterA Try.func47 Try.ntmps47 ?_
 refine DW.walkTo 1 ?_
 refine DW.sub (s':=⟨[(1,.ptr [.sl false 1 rs.length LR,.sl false 1 fs.length LB,.sl false 1 tt.length LT] 0),(2,.flat (.int .i64 0))],[]⟩) Sub.auto ?_
 refine DW.walk ?_
 refine DW.loopA (fun i:Nat=>⟨[(1,.ptr [.sl false 1 rs.length LR,.sl false 1 fs.length LB,.sl false 1 tt.length LT] 0),(4,.flat (.int .i64 ((fs.length:Nat):Int))),(32,.sl false 1 tt.length LT),(33,.flat (.int .i64 ((tt.length:Nat):Int))),(34,.flat (.int .i64 ((i:Nat):Int)))],[]⟩) (fun i=>i≤tt.length) (fun i=>tt.length - i) 0 ?_ (Nat.zero_le _)
 intro i hi
 clear c88
 rcases Nat.lt_or_ge i tt.length with hlt|hge
 ·obtain⟨r,hri⟩:∃ r,tt[i]?=some r:=⟨_,List.getElem?_eq_getElem (by omega)⟩
  obtain⟨k,hki⟩:∃ k,rs[i]?=some k:=⟨_,List.getElem?_eq_getElem (by omega)⟩
  have hk2:=hrk k (List.mem_of_getElem? hki)
  obtain⟨m,rfl⟩:∃ m:Nat,k=(m:Int):=⟨k.toNat,by omega⟩
  have hp1:=hpr i _ hki
  have hp2:=hpt i _ hri
  have hw:=pw_ m fs.length (by omega) (by omega)
  have hq:=h4 i _ _ hri hki
  have hrlen:=hrl _ (List.mem_of_getElem? hri)
  generalize ba_ (m:Int) fs.length=q at*
  clear hpr hpt hrk h4 hri hki g1 g2
  refine DW.walk ?_
  exact⟨i+1,by omega,by omega,Sub.auto⟩
 ·obtain rfl:i=tt.length:=by omega
  clear hpr hrk h4 hi hge
  refine DW.walk ?_
  refine DW.loopA (fun i:Nat=>⟨[(1,.ptr [.sl false 1 rs.length LR,.sl false 1 fs.length LB,.sl false 1 tt.length LT] 0),(4,.flat (.int .i64 ((fs.length:Nat):Int))),(51,.sl false 1 tt.length LT),(52,.flat (.int .i64 ((tt.length:Nat):Int))),(53,.flat (.int .i64 ((i:Nat):Int)))],[]⟩) (fun i=>i≤j) (fun i=>j - i) 0 ?_ (Nat.zero_le _)
  intro i hi
  rcases Nat.lt_or_ge i j with hlt|hge
  ·obtain⟨r,hri⟩:∃ r,tt[i]?=some r:=⟨_,List.getElem?_eq_getElem (by omega)⟩
   have hp2:=hpt i _ hri
   have hg:=g1 i r hlt hri
   clear hpt g1 g2 hri hrl
   refine DW.walk ?_
   exact⟨i+1,by omega,by omega,Sub.auto⟩
  ·obtain rfl:i=j:=by omega
   rcases hj with⟨hj,rfl⟩| ⟨hj,rfl⟩
   ·    obtain⟨r,hri⟩:∃ r,tt[i]?=some r:=⟨_,List.getElem?_eq_getElem (by omega)⟩
        have hp2:=hpt i _ hri
        have hg:=g2 r hri
        clear hpt g1 g2 hri hrl
        refine DW.walk ?_
        exact⟨.inr rfl,ResOk.one [] rfl rfl trivial (Vw.pers rfl)⟩
   ·    clear hpt g1 g2 hrl
        refine DW.walk ?_
        exact⟨.inr rfl,ResOk.one [] rfl rfl trivial (Vw.pers rfl)⟩
structure Few (A:Au):Prop where
 r:A.r.length≤1000000
 f:A.f.length≤1000000
 t:A.to.length≤1000000
 l:∀ l∈A.to,l.length≤1000000
theorem bj_ {A:Au} (h:AuOk A):Few A:=by
 have h1:=h.alpha.hi
 have h2:=h.hi
 have h3:=h.len
 refine⟨by omega,by omega,by omega,fun l hl=>?_⟩
 obtain⟨i,hi⟩:=List.getElem?_of_mem hl
 have hil:=(List.getElem?_eq_some_iff.1 hi).1
 have hk:=List.getElem?_eq_getElem (l:=A.r) (i:=i) (by omega)
 have h4:=h.wide i l _ hi hk
 have h5:=h.alpha.rng _ (List.mem_of_getElem? hk)
 obtain⟨m,hm⟩:=Int.eq_ofNat_of_zero_le h5.1
 rw [hm] at h4
 have:=oz_ (k:=((m:Nat):Int)) (n:=A.f.length) (by omega) h2
 omega
theorem fy_ (A :Au) (hA:Few A):DFun Try.prog 47 [auD A] (.flat (.int .i64 ((chk A:Nat):Int))):=by
  have c88:=md_ A.r (by have:=hA.r;omega)
  have hc90:=fun (l:List Int) (hl:l∈A.to)=>ug_ A l (by have:=hA.l l hl;omega)
  obtain⟨rs,fs,tt⟩:=A
  simp only [e3_,mf_] at*
  obtain⟨hr,hf,ht,hl⟩:=hA
  simp only at hr hf ht hl
  have hLR:=ab_ rs
  have hLB:=al_ fs
  have hLT:=ao_ tt
  have hpr:∀ (i:Nat) (x:Int),rs[i]?=some x→partD false 1 (i*1) (rs.map fun x=>D.flat (.int .i64 x))=some (.flat (.int .i64 x)):=fun i x h=>an_ h
  have hpt:∀ (i:Nat) (r:List Int),tt[i]?=some r→partD false 1 (i*1) (aj_ tt)=some (.sl false 1 r.length (r.map fun x=>D.flat (.int .i64 x))):=fun i r h=>dc_ h
  have hal:alphaE rs=0→ ∀ k∈rs,0≤k∧k≤2:=fun h=>(gj_ h).rng
  generalize (rs.map fun x=>D.flat (.int .i64 x))=LR at*
  generalize (fs.map fun x=>D.flat (.bool x))=LB at*
  generalize aj_ tt=LT at*
  unfold chk
  simp only
  generalize alphaE rs=e at*
  by_cases c1:e=0
  · subst c1
    rw [if_neg (by omega)]
    have c88:DFun Try.prog 88 [.sl false 1 rs.length LR] (.flat (.int .i64 0)):=c88
    by_cases c2:fs.length<1∨512<fs.length
    · rw [if_pos c2]
      clear hpr hpt hc90
      rcases c2 with c2|c2
      · refine DFun.enterA Try.func47 Try.ntmps47 ?_
        refine DW.walkTo 1 ?_
        refine DW.sub (s':=⟨[(1,.ptr [.sl false 1 rs.length LR,.sl false 1 fs.length LB,.sl false 1 tt.length LT] 0),(2,.flat (.int .i64 0))],[]⟩) Sub.auto ?_
        refine DW.walk ?_
        exact⟨.inr rfl,ResOk.one [] rfl rfl trivial (Vw.pers rfl)⟩
      · have c2':¬ fs.length<1:=by omega
        refine DFun.enterA Try.func47 Try.ntmps47 ?_
        refine DW.walkTo 1 ?_
        refine DW.sub (s':=⟨[(1,.ptr [.sl false 1 rs.length LR,.sl false 1 fs.length LB,.sl false 1 tt.length LT] 0),(2,.flat (.int .i64 0))],[]⟩) Sub.auto ?_
        refine DW.walk ?_
        exact⟨.inr rfl,ResOk.one [] rfl rfl trivial (Vw.pers rfl)⟩
    · rw [if_neg c2]
      by_cases c3:tt.length=rs.length
      · rw [if_neg (by omega)]
        open Classical in
        by_cases c4:(∃ (i:Nat) (l:List Int) (k:Int),tt[i]?=some l∧rs[i]?=some k∧l.length≠ba_ k fs.length)
        · rw [if_pos c4]
          obtain⟨j,⟨l0,k0,h1,h2,h3⟩,h4⟩:=dz_ c4
          exact v0_ rs fs tt LR LB LT hr hf ht hLR hLB hLT hpr hpt c88 c2 c3 (hal rfl) j l0 k0 h1 h2 h3 (fun i l k hij q1 q2=>Classical.byContradiction fun hn=>h4 i hij ⟨l,k,q1,q2,hn⟩) hl
        · rw [if_neg c4]
          have h4:∀ (i:Nat) (l:List Int) (k:Int),tt[i]?=some l→rs[i]?=some k→l.length=ba_ k fs.length:=fun i l k q1 q2=>Classical.byContradiction fun hn=>c4 ⟨i,l,k,q1,q2,hn⟩
          have hno:∀ l∈tt,(¬ ∃ s∈l,s<0∨(fs.length:Int)≤s)→DFun Try.prog 90 [.sl false 1 l.length (l.map fun x=>D.flat (.int .i64 x)),.clo (.func 91) [] [.ptr [.sl false 1 rs.length LR,.sl false 1 fs.length LB,.sl false 1 tt.length LT] 0]] (.flat (.bool false)):=fun l q1 q2=>hc90 l q1 false (.inr ⟨rfl,q2⟩)
          have hyes:∀ l∈tt,(∃ s∈l,s<0∨(fs.length:Int)≤s)→DFun Try.prog 90 [.sl false 1 l.length (l.map fun x=>D.flat (.int .i64 x)),.clo (.func 91) [] [.ptr [.sl false 1 rs.length LR,.sl false 1 fs.length LB,.sl false 1 tt.length LT] 0]] (.flat (.bool true)):=fun l q1 q2=>hc90 l q1 true (.inl ⟨rfl,q2⟩)
          by_cases c5:(∃ l∈tt,∃ s∈l,s<0∨(fs.length:Int)≤s)
          · rw [if_pos c5]
            have:∃ j:Nat,∃ l,tt[j]?=some l∧ ∃ s∈l,s<0∨(fs.length:Int)≤s:=by
              obtain⟨l,q1,q2⟩:=c5
              obtain⟨j,hj⟩:=List.getElem?_of_mem q1
              exact⟨j,l,hj,q2⟩
            obtain⟨j,⟨l0,q1,q2⟩,q3⟩:=dz_ this
            refine ot_ rs fs tt LR LB LT hr hf ht hLR hLB hLT hpr hpt c88 c2 c3 (hal rfl) h4 hl j 2 (.inl ⟨(List.getElem?_eq_some_iff.1 q1).1,rfl⟩) (fun i l hij g=>hno l (List.mem_of_getElem? g) fun q=>q3 i hij ⟨l,g,q⟩) (fun l g=>?_)
            rw [q1] at g
            obtain rfl:=Option.some.inj g
            exact hyes _ (List.mem_of_getElem? q1) q2
          · rw [if_neg c5]
            refine ot_ rs fs tt LR LB LT hr hf ht hLR hLB hLT hpr hpt c88 c2 c3 (hal rfl) h4 hl tt.length 0 (.inr ⟨rfl,rfl⟩) (fun i l hij g=>hno l (List.mem_of_getElem? g) fun q=>c5 ⟨l,List.mem_of_getElem? g,q⟩) (fun l g=>?_)
            rw [List.getElem?_eq_none (Nat.le_refl _)] at g
            cases g
      · rw [if_pos c3]
        clear hpr hpt hc90
        have hf1:¬ fs.length<1:=by omega
        have hf2:¬ 512<fs.length:=by omega
        refine DFun.enterA Try.func47 Try.ntmps47 ?_
        refine DW.walkTo 1 ?_
        refine DW.sub (s':=⟨[(1,.ptr [.sl false 1 rs.length LR,.sl false 1 fs.length LB,.sl false 1 tt.length LT] 0),(2,.flat (.int .i64 0))],[]⟩) Sub.auto ?_
        refine DW.walk ?_
        exact⟨.inr rfl,ResOk.one [] rfl rfl trivial (Vw.pers rfl)⟩
  · rw [if_pos c1]
    clear hpr hpt hc90
    refine DFun.enterA Try.func47 Try.ntmps47 ?_
    refine DW.walkTo 1 ?_
    refine DW.sub (s':=⟨[(1,.ptr [.sl false 1 rs.length LR,.sl false 1 fs.length LB,.sl false 1 tt.length LT] 0),(2,.flat (.int .i64 0))],[]⟩) Sub.auto ?_
    refine DW.walk ?_
    exact⟨.inr rfl,ResOk.one [] rfl rfl trivial (Vw.pers rfl)⟩
theorem vf_ (A:Au) (i:Nat) (k:Int) (hk:A.r[i]?=some k) (hk2:0≤k∧k≤2) (hn:A.f.length≤1000000):DFun Try.prog 50 [auD A,.flat (.int .i64 ((i:Nat):Int))] (.flat (.int .i64 ((ba_ k A.f.length:Nat):Int))):=by
 obtain⟨rs,fs,tt⟩:=A
 simp only [e3_] at*
 have hil:=(List.getElem?_eq_some_iff.1 hk).1
 have hp:=an_ hk
 have hLR:=ab_ rs
 obtain⟨m,rfl⟩:∃ m:Nat,k=(m:Int):=⟨k.toNat,by omega⟩
 have hw:ba_ (m:Int) fs.length=fs.length ^ m:=by unfold ba_;rw [Int.toNat_natCast]
 rw [hw]
 generalize (rs.map fun x=>D.flat (.int .i64 x))=LR at*
 generalize (fs.map fun x=>D.flat (.bool x))=LB at*
 generalize aj_ tt=LT at*
 clear hw hk
 rcases (show m=0∨m=1∨m=2 by omega) with rfl|rfl|rfl
 ·rw [Nat.pow_zero]
  refine DFun.enterA Try.func50 Try.ntmps50 ?_
  refine DW.walk ?_
  exact⟨.inr rfl,ResOk.one [] rfl rfl trivial (Vw.pers rfl)⟩
 ·rw [Nat.pow_one]
  refine DFun.enterA Try.func50 Try.ntmps50 ?_
  refine DW.walk ?_
  exact⟨.inr rfl,ResOk.one [] rfl rfl trivial (Vw.pers rfl)⟩
 ·have hm:IntKind.i64.wrap ((fs.length:Int)*(fs.length:Int))=((fs.length ^ 2:Nat):Int):=by
   rw [Nat.pow_two,Int.natCast_mul,IntKind.wrap_i64]
   have h1:fs.length*fs.length≤1000000*1000000:=Nat.mul_le_mul hn hn
   rw [← Int.natCast_mul]
   omega
  generalize fs.length ^ 2=q at*
  refine DFun.enterA Try.func50 Try.ntmps50 ?_
  refine DW.walk ?_
  exact⟨.inr rfl,ResOk.one [] rfl rfl trivial (Vw.pers rfl)⟩
theorem ti_ (rs:List Int) (fs:List Bool) (tt:List (List Int)) (LR LB LT:List D) (hr:rs.length≤1000000) (hf:fs.length≤1000000) (ht:tt.length≤1000000) (hLR:persL LR=true) (hLB:persL LB=true) (hLT:persL LT=true)
  (hpt:∀ (i:Nat) (r:List Int),tt[i]?=some r→partD false 1 (i*1) LT=some (.sl false 1 r.length (r.map fun x=>D.flat (.int .i64 x))))
  (c49:DFun Try.prog 49 [.sl false 1 rs.length LR] (.flat (.int .i64 0))) (c2:¬ (fs.length<1∨512<fs.length)) (c3:tt.length=rs.length) (hw:∀ (i:Nat) (k:Int),rs[i]?=some k→DFun Try.prog 50 [.agg [.sl false 1 rs.length LR,.sl false 1 fs.length LB,.sl false 1 tt.length LT],.flat (.int .i64 ((i:Nat):Int))] (.flat (.int .i64 ((ba_ k fs.length:Nat):Int)))) (j:Nat) (r0:List Int) (k0:Int) (h1:tt[j]?=some r0) (h2:rs[j]?=some k0) (h3:r0.length≠ba_ k0 fs.length) (h4:∀ (i:Nat) (l:List Int) (k:Int),i<j→tt[i]?=some l→rs[i]?=some k→l.length=ba_ k fs.length) (hrl:∀ l∈tt,l.length≤1000000):DFun Try.prog 15 [.agg [.sl false 1 rs.length LR,.sl false 1 fs.length LB,.sl false 1 tt.length LT]] (.flat (.int .i64 3)):=by
 have hf1:¬ fs.length<1:=by omega
 have hf2:¬ 512<fs.length:=by omega
 have hjl:=(List.getElem?_eq_some_iff.1 h1).1
 refine DFun.enterA Try.func15 Try.ntmps15 ?_
 refine DW.walkTo 1 ?_
 refine DW.sub (s':=⟨[(1,.ptr [.sl false 1 rs.length LR,.sl false 1 fs.length LB,.sl false 1 tt.length LT] 0),(2,.flat (.int .i64 0))],[]⟩) Sub.auto ?_
 refine DW.walk ?_
 refine DW.loopA (fun i:Nat=>⟨[(1,.ptr [.sl false 1 rs.length LR,.sl false 1 fs.length LB,.sl false 1 tt.length LT] 0),(4,.flat (.int .i64 ((fs.length:Nat):Int))),(5,.flat (.int .i64 ((i:Nat):Int)))],[]⟩) (fun i=>i≤j) (fun i=>j - i) 0 ?_ (Nat.zero_le _)
 intro i hi
 clear c49
 rcases Nat.lt_or_ge i j with hlt|hge
 ·obtain⟨r,hri⟩:∃ r,tt[i]?=some r:=⟨_,List.getElem?_eq_getElem (by omega)⟩
  obtain⟨k,hki⟩:∃ k,rs[i]?=some k:=⟨_,List.getElem?_eq_getElem (by omega)⟩
  have hp2:=hpt i _ hri
  have hwi:=hw i k hki
  have hq:=h4 i _ _ hlt hri hki
  have hrlen:=hrl _ (List.mem_of_getElem? hri)
  generalize ba_ k fs.length=q at*
  clear hpt hw h1 h2 h3 h4 hri hki hrl
  refine DW.walk ?_
  exact⟨i+1,by omega,by omega,Sub.auto⟩
 ·obtain rfl:i=j:=by omega
  have hp2:=hpt i _ h1
  have hwi:=hw i k0 h2
  have hrlen:=hrl _ (List.mem_of_getElem? h1)
  generalize ba_ k0 fs.length=q at*
  clear hpt hw h1 h2 h4 hrl
  refine DW.walk ?_
  exact⟨.inr rfl,ResOk.one [] rfl rfl trivial (Vw.pers rfl)⟩
theorem ng_ (rs:List Int) (fs:List Bool) (tt:List (List Int)) (LR LB LT:List D) (hr:rs.length≤1000000) (hf:fs.length≤1000000) (ht:tt.length≤1000000) (hLR:persL LR=true) (hLB:persL LB=true) (hLT:persL LT=true)
  (hpt:∀ (i:Nat) (r:List Int),tt[i]?=some r→partD false 1 (i*1) LT=some (.sl false 1 r.length (r.map fun x=>D.flat (.int .i64 x))))
  (c49:DFun Try.prog 49 [.sl false 1 rs.length LR] (.flat (.int .i64 0))) (c2:¬ (fs.length<1∨512<fs.length)) (c3:tt.length=rs.length) (hw:∀ (i:Nat) (k:Int),rs[i]?=some k→DFun Try.prog 50 [.agg [.sl false 1 rs.length LR,.sl false 1 fs.length LB,.sl false 1 tt.length LT],.flat (.int .i64 ((i:Nat):Int))] (.flat (.int .i64 ((ba_ k fs.length:Nat):Int)))) (h4:∀ (i:Nat) (l:List Int) (k:Int),tt[i]?=some l→rs[i]?=some k→l.length=ba_ k fs.length) (hrl:∀ l∈tt,l.length≤1000000) (j:Nat) (e:Int) (hj:(∃ (r:List Int) (p:Nat) (x:Int),tt[j]?=some r∧r[p]?=some x∧(x<0∨(fs.length:Int)≤x)∧ ∀ (q:Nat) y,q<p→r[q]?=some y→0≤y∧y<(fs.length:Int))∧e=2∨j=tt.length∧e=0) (g1:∀ (i:Nat) (l:List Int),i<j→tt[i]?=some l→ ∀ (q:Nat) y,l[q]?=some y→0≤y∧y<(fs.length:Int)):DFun Try.prog 15 [.agg [.sl false 1 rs.length LR,.sl false 1 fs.length LB,.sl false 1 tt.length LT]] (.flat (.int .i64 e)):=by
 have hf1:¬ fs.length<1:=by omega
 have hf2:¬ 512<fs.length:=by omega
 refine DFun.enterA Try.func15 Try.ntmps15 ?_
 refine DW.walkTo 1 ?_
 refine DW.sub (s':=⟨[(1,.ptr [.sl false 1 rs.length LR,.sl false 1 fs.length LB,.sl false 1 tt.length LT] 0),(2,.flat (.int .i64 0))],[]⟩) Sub.auto ?_
 refine DW.walk ?_
 refine DW.loopA (fun i:Nat=>⟨[(1,.ptr [.sl false 1 rs.length LR,.sl false 1 fs.length LB,.sl false 1 tt.length LT] 0),(4,.flat (.int .i64 ((fs.length:Nat):Int))),(5,.flat (.int .i64 ((i:Nat):Int)))],[]⟩) (fun i=>i≤tt.length) (fun i=>tt.length - i) 0 ?_ (Nat.zero_le _)
 intro i hi
 clear c49
 rcases Nat.lt_or_ge i tt.length with hlt|hge
 ·obtain⟨r,hri⟩:∃ r,tt[i]?=some r:=⟨_,List.getElem?_eq_getElem (by omega)⟩
  obtain⟨k,hki⟩:∃ k,rs[i]?=some k:=⟨_,List.getElem?_eq_getElem (by omega)⟩
  have hp2:=hpt i _ hri
  have hwi:=hw i k hki
  have hq:=h4 i _ _ hri hki
  have hrlen:=hrl _ (List.mem_of_getElem? hri)
  generalize ba_ k fs.length=q at*
  clear hpt hw h4 hri hki hrl hj g1
  refine DW.walk ?_
  exact⟨i+1,by omega,by omega,Sub.auto⟩
 ·obtain  rfl:i=tt.length:=by omega
  clear hw h4 hi hge
  have hjt:j≤tt.length:=by
   rcases hj with⟨⟨r,p,x,q,_⟩,_⟩| ⟨q,_⟩
   ·have:=(List.getElem?_eq_some_iff.1 q).1;omega
   ·omega
  refine DW.walk ?_
  refine DW.loopA (fun i:Nat=>⟨[(1,.ptr [.sl false 1 rs.length LR,.sl false 1 fs.length LB,.sl false 1 tt.length LT] 0),(4,.flat (.int .i64 ((fs.length:Nat):Int))),(6,.flat (.int .i64 ((i:Nat):Int)))],[]⟩) (fun i=>i≤j) (fun i=>j - i) 0 ?_ (Nat.zero_le _)
  intro i hi
  rcases Nat.lt_or_ge i j with hlt|hge
  ·obtain⟨r,hri⟩:∃ r,tt[i]?=some r:=⟨_,List.getElem?_eq_getElem (by omega)⟩
   have hp2:=hpt i _ hri
   have hg:=g1 i r hlt hri
   have hrlen:=hrl _ (List.mem_of_getElem? hri)
   have hpx:∀ (q:Nat) y,r[q]?=some y→partD false 1 (q*1) (r.map fun x=>D.flat (.int .i64 x))=some (.flat (.int .i64 y)):=fun q y h=>an_ h
   generalize (r.map fun x=>D.flat (.int .i64 x))=LX at*
   clear hpt g1 hri hrl hj
   refine DW.walk ?_
   refine DW.loopA (fun p:Nat=>⟨[(1,.ptr [.sl false 1 rs.length LR,.sl false 1 fs.length LB,.sl false 1 tt.length LT] 0),(4,.flat (.int .i64 ((fs.length:Nat):Int))),(6,.flat (.int .i64 ((i:Nat):Int))),(7,.flat (.int .i64 ((p:Nat):Int)))],[]⟩) (fun p=>p≤r.length) (fun p=>r.length - p) 0 ?_ (Nat.zero_le _)
   intro p hp
   rcases Nat.lt_or_ge p r.length with hpl|hpg
   ·    obtain⟨y,hy⟩:∃ y,r[p]?=some y:=⟨_,List.getElem?_eq_getElem hpl⟩
        have hpy:=hpx p y hy
        have hy2:=hg p y hy
        have hy3:¬ y<0:=by omega
        have hy4:¬ (fs.length:Int)≤y:=by omega
        clear hpx hg hy hy2
        refine DW.walk ?_
        exact⟨p+1,by omega,by omega,Sub.auto⟩
   ·    obtain rfl:p=r.length:=by omega
        clear hpx hg
        refine DW.walk ?_
        exact⟨i+1,by omega,by omega,Sub.auto⟩
  ·obtain    rfl:i=j:=by omega
   rcases hj with⟨⟨r,p0,x,hri,hrp,hx,hg⟩,rfl⟩| ⟨hj,rfl⟩
   ·    have hp2:=hpt i _ hri
        have hil:=(List.getElem?_eq_some_iff.1 hri).1
        have hpl0:=(List.getElem?_eq_some_iff.1 hrp).1
        have hrlen:=hrl _ (List.mem_of_getElem? hri)
        have hpx:∀ (q:Nat) y,r[q]?=some y→partD false 1 (q*1) (r.map fun x=>D.flat (.int .i64 x))=some (.flat (.int .i64 y)):=fun q y h=>an_ h
        generalize (r.map fun x=>D.flat (.int .i64 x))=LX at*
        clear hpt g1 hri hrl
        refine DW.walk ?_
        refine DW.loopA (fun p:Nat=>⟨[(1,.ptr [.sl false 1 rs.length LR,.sl false 1 fs.length LB,.sl false 1 tt.length LT] 0),(4,.flat (.int .i64 ((fs.length:Nat):Int))),(6,.flat (.int .i64 ((i:Nat):Int))),(7,.flat (.int .i64 ((p:Nat):Int)))],[]⟩) (fun p=>p≤p0) (fun p=>p0 - p) 0 ?_ (Nat.zero_le _)
        intro p hp
        rcases Nat.lt_or_ge p p0 with hpl|hpg
        ·obtain⟨y,hy⟩:∃ y,r[p]?=some y:=⟨_,List.getElem?_eq_getElem (by omega)⟩
         have hpy:=hpx p y hy
         have hy2:=hg p y hpl hy
         have hy3:¬ y<0:=by omega
         have hy4:¬ (fs.length:Int)≤y:=by omega
         clear hpx hg hy hy2 hrp hx
         refine DW.walk ?_
         exact⟨p+1,by omega,by omega,Sub.auto⟩
        ·obtain rfl:p=p0:=by omega
         have hpy:=hpx p x hrp
         clear hpx hg hrp
         by_cases hx0:x<0
         ·  clear hx
            refine DW.walk ?_
            exact⟨.inr rfl,ResOk.one [] rfl rfl trivial (Vw.pers rfl)⟩
         ·  have hx1:(fs.length:Int)≤x:=by omega
            clear hx
            refine DW.walk ?_
            exact⟨.inr rfl,ResOk.one [] rfl rfl trivial (Vw.pers rfl)⟩
   ·    clear hpt g1 hrl
        refine DW.walk ?_
        exact⟨.inr rfl,ResOk.one [] rfl rfl trivial (Vw.pers rfl)⟩
theorem va_ (A :Au) (hA:Few A):DFun Try.prog 15 [auD A] (.flat (.int .i64 ((chk A:Nat):Int))):=by
  have c49:=rj_ A.r (by have:=hA.r;omega)
  have hw':=fun (h1:alphaE A.r=0) (h2:A.f.length≤512) (i:Nat) (k:Int) (hk:A.r[i]?=some k)=>vf_ A i k hk ((gj_ h1).rng k (List.mem_of_getElem? hk)) (by omega)
  obtain⟨rs,fs,tt⟩:=A
  simp only [e3_,mf_] at*
  obtain⟨hr,hf,ht,hl⟩:=hA
  simp only at hr hf ht hl
  have hLR:=ab_ rs
  have hLB:=al_ fs
  have hLT:=ao_ tt
  have hpt:∀ (i:Nat) (r:List Int),tt[i]?=some r→partD false 1 (i*1) (aj_ tt)=some (.sl false 1 r.length (r.map fun x=>D.flat (.int .i64 x))):=fun i r h=>dc_ h
  generalize (rs.map fun x=>D.flat (.int .i64 x))=LR at*
  generalize (fs.map fun x=>D.flat (.bool x))=LB at*
  generalize aj_ tt=LT at*
  unfold chk
  simp only
  generalize alphaE rs=e at*
  by_cases c1:e=0
  · subst c1
    rw [if_neg (by omega)]
    have c49:DFun Try.prog 49 [.sl false 1 rs.length LR] (.flat (.int .i64 0)):=c49
    by_cases c2:fs.length<1∨512<fs.length
    · rw [if_pos c2]
      clear hpt hw'
      rcases c2 with c2|c2
      · refine DFun.enterA Try.func15 Try.ntmps15 ?_
        refine DW.walkTo 1 ?_
        refine DW.sub (s':=⟨[(1,.ptr [.sl false 1 rs.length LR,.sl false 1 fs.length LB,.sl false 1 tt.length LT] 0),(2,.flat (.int .i64 0))],[]⟩) Sub.auto ?_
        refine DW.walk ?_
        exact⟨.inr rfl,ResOk.one [] rfl rfl trivial (Vw.pers rfl)⟩
      · have c2':¬ fs.length<1:=by omega
        refine DFun.enterA Try.func15 Try.ntmps15 ?_
        refine DW.walkTo 1 ?_
        refine DW.sub (s':=⟨[(1,.ptr [.sl false 1 rs.length LR,.sl false 1 fs.length LB,.sl false 1 tt.length LT] 0),(2,.flat (.int .i64 0))],[]⟩) Sub.auto ?_
        refine DW.walk ?_
        exact⟨.inr rfl,ResOk.one [] rfl rfl trivial (Vw.pers rfl)⟩
    · rw [if_neg c2]
      have hw:=hw' rfl (by omega)
      by_cases c3:tt.length=rs.length
      · rw [if_neg (by omega)]
        open Classical in
        by_cases c4:(∃ (i:Nat) (l:List Int) (k:Int),tt[i]?=some l∧rs[i]?=some k∧l.length≠ba_ k fs.length)
        · rw [if_pos c4]
          obtain⟨j,⟨l0,k0,h1,h2,h3⟩,h4⟩:=dz_ c4
          exact ti_ rs fs tt LR LB LT hr hf ht hLR hLB hLT hpt c49 c2 c3 hw j l0 k0 h1 h2 h3 (fun i l k hij q1 q2=>Classical.byContradiction fun hn=>h4 i hij ⟨l,k,q1,q2,hn⟩) hl
        · rw [if_neg c4]
          have h4:∀ (i:Nat) (l:List Int) (k:Int),tt[i]?=some l→rs[i]?=some k→l.length=ba_ k fs.length:=fun i l k q1 q2=>Classical.byContradiction fun hn=>c4 ⟨i,l,k,q1,q2,hn⟩
          by_cases c5:(∃ l∈tt,∃ s∈l,s<0∨(fs.length:Int)≤s)
          · rw [if_pos c5]
            have:∃ j:Nat,∃ l,tt[j]?=some l∧ ∃ (p:Nat) (x:Int),l[p]?=some x∧(x<0∨(fs.length:Int)≤x):=by
              obtain⟨l,q1,s,q2,q3⟩:=c5
              obtain⟨j,hj⟩:=List.getElem?_of_mem q1
              obtain⟨p,hp⟩:=List.getElem?_of_mem q2
              exact⟨j,l,hj,p,s,hp,q3⟩
            obtain⟨j,⟨l0,q1,q2⟩,q3⟩:=dz_ this
            obtain⟨p,⟨x,q4,q5⟩,q6⟩:=dz_ q2
            exact ng_ rs fs tt LR LB LT hr hf ht hLR hLB hLT hpt c49 c2 c3 hw h4 hl j 2 (.inl ⟨⟨l0,p,x,q1,q4,q5,fun q y hq hy=>Classical.byContradiction fun hn=>q6 q hq ⟨y,hy,by omega⟩⟩,rfl⟩) (fun i l hij g q y hy=>Classical.byContradiction fun hn=>q3 i hij ⟨l,g,q,y,hy,by omega⟩)
          · rw [if_neg c5]
            exact ng_ rs fs tt LR LB LT hr hf ht hLR hLB hLT hpt c49 c2 c3 hw h4 hl tt.length 0 (.inr ⟨rfl,rfl⟩) (fun i l hij g q y hy=>Classical.byContradiction fun hn=>c5 ⟨l,List.mem_of_getElem? g,y,List.mem_of_getElem? hy,by omega⟩)
      · rw [if_pos c3]
        clear hpt hw hw'
        have hf1:¬ fs.length<1:=by omega
        have hf2:¬ 512<fs.length:=by omega
        refine DFun.enterA Try.func15 Try.ntmps15 ?_
        refine DW.walkTo 1 ?_
        refine DW.sub (s':=⟨[(1,.ptr [.sl false 1 rs.length LR,.sl false 1 fs.length LB,.sl false 1 tt.length LT] 0),(2,.flat (.int .i64 0))],[]⟩) Sub.auto ?_
        refine DW.walk ?_
        exact⟨.inr rfl,ResOk.one [] rfl rfl trivial (Vw.pers rfl)⟩
  · rw [if_pos c1]
    clear hpt hw'
    refine DFun.enterA Try.func15 Try.ntmps15 ?_
    refine DW.walkTo 1 ?_
    refine DW.sub (s':=⟨[(1,.ptr [.sl false 1 rs.length LR,.sl false 1 fs.length LB,.sl false 1 tt.length LT] 0),(2,.flat (.int .i64 0))],[]⟩) Sub.auto ?_
    refine DW.walk ?_
    exact⟨.inr rfl,ResOk.one [] rfl rfl trivial (Vw.pers rfl)⟩
end Go.Proofs.Ytichhfbkhnimmaa
