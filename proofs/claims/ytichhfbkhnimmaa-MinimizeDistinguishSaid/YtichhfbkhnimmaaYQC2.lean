/- Following: the rounds. No condition. -/
import Derived.Test.YtichhfbkhnimmaaYFO5
import Derived.Test.YtichhfbkhnimmaaYFO4
import Derived.Test.YtichhfbkhnimmaaYFO
import Derived.Test.YtichhfbkhnimmaaXQu
set_option linter.unusedSimpArgs false
set_option linter.unusedVariables false
set_option maxHeartbeats 4000000
set_option maxRecDepth 8000
namespace Go.Proofs.Ytichhfbkhnimmaa
open Go Go.RowKit Go.PP Go.Dm Go.Rt Go.Mn
theorem fpass_d {cc:Code} (hsel:selC [1,1,1,1,0,1,2,2] code100=some cc) (A B:Au) (φ:Nat→Nat) (hok:AuOk A) (hokB:AuOk B) (hiso:Iso A B φ) (hBf:B.final.length=A.final.length) (K:List Bool) (hK:K.length=A.final.length):
  DW Try.prog 133 cc ⟨[(2,.ptr [.sl false 1 A.ranks.length (A.ranks.map fun x=>D.flat (.int .i64 x)),.sl false 1 A.final.length (A.final.map fun x=>D.flat (.bool x)),.sl false 1 A.ranks.length (rowsL A.to)] 0),(3,.ptr [.sl false 1 B.ranks.length (B.ranks.map fun x=>D.flat (.int .i64 x)),.sl false 1 A.final.length (B.final.map fun x=>D.flat (.bool x)),.sl false 1 A.ranks.length (rowsL B.to)] 0),(5,.ref 13107200005 0),(6,.flat (.int .i64 ((A.final.length:Nat):Int))),(7,.clo (.func 123) [] [.ref 13107200005 0]),(8,.flat (.bool true))],[(13107200005,some (.box [.bsl 13107200007 0 A.final.length A.final.length])),(13107200007,some (.box ((foU φ A.final.length K).map fun x=>D.flat (.int .i64 x))))]⟩ (Nm 133 ⟨[(2,.ptr [.sl false 1 A.ranks.length (A.ranks.map fun x=>D.flat (.int .i64 x)),.sl false 1 A.final.length (A.final.map fun x=>D.flat (.bool x)),.sl false 1 A.ranks.length (rowsL A.to)] 0),(3,.ptr [.sl false 1 B.ranks.length (B.ranks.map fun x=>D.flat (.int .i64 x)),.sl false 1 A.final.length (B.final.map fun x=>D.flat (.bool x)),.sl false 1 A.ranks.length (rowsL B.to)] 0),(5,.ref 13107200005 0),(6,.flat (.int .i64 ((A.final.length:Nat):Int))),(7,.clo (.func 123) [] [.ref 13107200005 0]),(8,.flat (.bool (pass A K).2))],[(13107200005,some (.box [.bsl 13107200007 0 A.final.length A.final.length])),(13107200007,some (.box ((foU φ A.final.length (pass A K).1).map fun x=>D.flat (.int .i64 x))))]⟩):=by
 have q1:=pers_i A.ranks
 have q2:=pers_b A.final
 have q3:=pers_r A.to
 have q4:=pers_i B.ranks
 have q5:=pers_b B.final
 have q6:=pers_r B.to
 have hpF:=fun U:List Int=>pers_i U
 have hlen:∀ i,i≤A.ranks.length→(fSym A (K,false) i).1.length=A.final.length:=fun i hi=>(FInv.sym hok hK (x:=(K,false)) ⟨rfl,fun _=>rfl,fun h=>by cases h⟩ i hi).len.trans hK
 have hrow:=fun (c2:Code) (h:selC [1,1,1,1,0,1,2,2,1,2,1,1,2,2] code100=some c2)=>frow_d h A B φ hok hokB hiso hBf
 refine DW.sel hsel (by rfl) ?_
 have p00:=hpF (foU φ A.final.length K)
 have k00:=keys_ints (foU φ A.final.length K)
 have hRl:A.ranks.length≤4096:=hok.alpha.hi
 generalize hF0:((foU φ A.final.length K).map fun x=>D.flat (.int .i64 x))=F0 at*
 refine DW.walk ?_
 refine DW.loopA (fun i:Nat=>⟨[(26,.sl false 1 A.ranks.length (A.ranks.map fun x=>D.flat (.int .i64 x))),(27,.flat (.int .i64 ((A.ranks.length:Nat):Int))),(28,.flat (.int .i64 ((i:Nat):Int))),(2,.ptr [.sl false 1 A.ranks.length (A.ranks.map fun x=>D.flat (.int .i64 x)),.sl false 1 A.final.length (A.final.map fun x=>D.flat (.bool x)),.sl false 1 A.ranks.length (rowsL A.to)] 0),(3,.ptr [.sl false 1 B.ranks.length (B.ranks.map fun x=>D.flat (.int .i64 x)),.sl false 1 A.final.length (B.final.map fun x=>D.flat (.bool x)),.sl false 1 A.ranks.length (rowsL B.to)] 0),(5,.ref 13107200005 0),(6,.flat (.int .i64 ((A.final.length:Nat):Int))),(7,.clo (.func 123) [] [.ref 13107200005 0]),(8,.flat (.bool (fSym A (K,false) i).2))],[(13107200005,some (.box [.bsl 13107200007 0 A.final.length A.final.length])),(13107200007,some (.box ((foU φ A.final.length (fSym A (K,false) i).1).map fun x=>D.flat (.int .i64 x))))]⟩) (fun i=>i≤A.ranks.length) (fun i=>A.ranks.length - i) 0 ?_ (Nat.zero_le _) (by show Sub _ _ ⟨[(26,.sl false 1 A.ranks.length (A.ranks.map fun x=>D.flat (.int .i64 x))),(27,.flat (.int .i64 ((A.ranks.length:Nat):Int))),(28,.flat (.int .i64 ((0:Nat):Int))),(2,.ptr [.sl false 1 A.ranks.length (A.ranks.map fun x=>D.flat (.int .i64 x)),.sl false 1 A.final.length (A.final.map fun x=>D.flat (.bool x)),.sl false 1 A.ranks.length (rowsL A.to)] 0),(3,.ptr [.sl false 1 B.ranks.length (B.ranks.map fun x=>D.flat (.int .i64 x)),.sl false 1 A.final.length (B.final.map fun x=>D.flat (.bool x)),.sl false 1 A.ranks.length (rowsL B.to)] 0),(5,.ref 13107200005 0),(6,.flat (.int .i64 ((A.final.length:Nat):Int))),(7,.clo (.func 123) [] [.ref 13107200005 0]),(8,.flat (.bool false))],[(13107200005,some (.box [.bsl 13107200007 0 A.final.length A.final.length])),(13107200007,some (.box ((foU φ A.final.length K).map fun x=>D.flat (.int .i64 x))))]⟩;rw [hF0];exact Sub.auto)
 intro i hi
 rcases Nat.lt_or_ge i A.ranks.length with hlt|hge
 ·refine (hrow _ (by rfl) i hlt _ _ (hlen i hi)).mono ?_
  rintro e s' ⟨rfl,hsub⟩
  exact⟨i+1,by omega,by omega,hsub⟩
 ·obtain rfl:A.ranks.length=i:=by omega
  have p0:=hpF (foU φ A.final.length (fSym A (K,false) A.ranks.length).1)
  have k0:=keys_ints (foU φ A.final.length (fSym A (K,false) A.ranks.length).1)
  show DW _ _ _ _ _
  unfold pass
  generalize hF1:((foU φ A.final.length (fSym A (K,false) A.ranks.length).1).map fun x=>D.flat (.int .i64 x))=F1 at*
  clear hrow
  refine DW.walk ?_
  exact Nm.mk Sub.auto
theorem follow_d (A B:Au) (φ:Nat→Nat) (hok:AuOk A) (hokB:AuOk B) (hiso:Iso A B φ) (hBf:B.final.length=A.final.length) (hall:∀ x:Nat,x<A.final.length→(x:Int)∈foundA A):DFun Try.prog 100 [auD A,auD B] (.sl false 1 A.final.length ((List.range A.final.length).map fun x=>D.flat (.int .i64 ((φ x:Nat):Int)))):=by
 have q1:=pers_i A.ranks
 have q2:=pers_b A.final
 have q3:=pers_r A.to
 have q4:=pers_i B.ranks
 have q5:=pers_b B.final
 have q6:=pers_r B.to
 have hpF:=fun U:List Int=>pers_i U
 have hrep:=lendLe (args':=[.sl true 1 1 [.flat (.int .i64 (-1))],.flat (.int .i64 ((A.final.length:Nat):Int))]) (repeat_d (-1) A.final.length hok.lo (by have:=hok.hi;omega)) ⟨Le.full,Le.refl _,trivial⟩ (Le.refl _)
 have hTl:A.to.length=A.ranks.length:=hok.len
 have hn:=hok.hi
 have hn0:=hok.lo
 have hpass:=fun (c2:Code) (h:selC [1,1,1,1,0,1,2,2] code100=some c2)=>fpass_d h A B φ hok hokB hiso hBf
 have h5:=IdAt.of 5 13107200005
 have e0:List.replicate A.final.length (D.flat (.int .i64 (-1)))=((foU φ A.final.length (List.replicate A.final.length false)).map fun x=>D.flat (.int .i64 x)):=by rw [foU_none,List.map_replicate]
 rw [e0] at hrep
 have p00:=hpF (foU φ A.final.length (List.replicate A.final.length false))
 have k00:=keys_ints (foU φ A.final.length (List.replicate A.final.length false))
 rw [auD_eq,auD_eq,hiso.len.trans hTl,hBf,hTl]
 generalize hF0:((foU φ A.final.length (List.replicate A.final.length false)).map fun x=>D.flat (.int .i64 x))=F0 at*
 refine DFun.enterA Try.func100 Try.ntmps100 ?_
 refine DW.walk ?_
 refine DW.loopA (fun x:List Bool × Bool=>⟨[(2,.ptr [.sl false 1 A.ranks.length (A.ranks.map fun x=>D.flat (.int .i64 x)),.sl false 1 A.final.length (A.final.map fun x=>D.flat (.bool x)),.sl false 1 A.ranks.length (rowsL A.to)] 0),(3,.ptr [.sl false 1 B.ranks.length (B.ranks.map fun x=>D.flat (.int .i64 x)),.sl false 1 A.final.length (B.final.map fun x=>D.flat (.bool x)),.sl false 1 A.ranks.length (rowsL B.to)] 0),(5,.ref 13107200005 0),(6,.flat (.int .i64 ((A.final.length:Nat):Int))),(7,.clo (.func 123) [] [.ref 13107200005 0]),(8,.flat (.bool x.2))],[(13107200005,some (.box [.bsl 13107200007 0 A.final.length A.final.length])),(13107200007,some (.box ((foU φ A.final.length x.1).map fun x=>D.flat (.int .i64 x))))]⟩) (fun x=>x.1.length=A.final.length∧(x.2=false→ClosedK A (fun y=>kn x.1 y=true))) (fun x=>if x.2 then x.1.count false+1 else 0) (List.replicate A.final.length false,true) ?_ ⟨by simp,fun h=>by cases h⟩ (by show Sub _ _ ⟨[(2,.ptr [.sl false 1 A.ranks.length (A.ranks.map fun x=>D.flat (.int .i64 x)),.sl false 1 A.final.length (A.final.map fun x=>D.flat (.bool x)),.sl false 1 A.ranks.length (rowsL A.to)] 0),(3,.ptr [.sl false 1 B.ranks.length (B.ranks.map fun x=>D.flat (.int .i64 x)),.sl false 1 A.final.length (B.final.map fun x=>D.flat (.bool x)),.sl false 1 A.ranks.length (rowsL B.to)] 0),(5,.ref 13107200005 0),(6,.flat (.int .i64 ((A.final.length:Nat):Int))),(7,.clo (.func 123) [] [.ref 13107200005 0]),(8,.flat (.bool true))],[(13107200005,some (.box [.bsl 13107200007 0 A.final.length A.final.length])),(13107200007,some (.box ((foU φ A.final.length (List.replicate A.final.length false)).map fun x=>D.flat (.int .i64 x))))]⟩;rw [hF0];exact Sub.auto)
 rintro⟨K,m⟩ ⟨hK,hcl⟩
 simp only at hK hcl
 cases m with
 |true   =>
  have hinv:=pass_inv hok hK
  refine (hpass _ (by rfl) K hK).mono ?_
  rintro e s' ⟨rfl,hsub⟩
  refine⟨pass A K,⟨hinv.len.trans hK,fun h=>?_⟩,?_,hsub⟩
  ·have h1:=hinv.no h
   rw [h1]
   exact pass_closed hok hK h
  ·show  (if (pass A K).2=true then _ else _)<_
   by_cases h:(pass A K).2=true
   ·    have:=hinv.yes h
        simp only [h,if_true]
        omega
   ·simp [h]
 |false  =>
  have hkn:∀ x,x<A.final.length→kn K x=true:=fun x hx=>by
   have:=closed_found hok (hcl rfl) (hall x hx)
   simpa using this
  have   hfin:((foU φ A.final.length K).map fun x=>D.flat (.int .i64 x))=(List.range A.final.length).map fun x=>D.flat (.int .i64 ((φ x:Nat):Int)):=by
   refine List.ext_getElem? fun a=>?_
   by_cases ha:a<A.final.length
   ·    rw [List.getElem?_map,foU_get ha,if_pos (hkn a ha)]
        simp [ha]
   ·rw [List.getElem?_eq_none (by simp [foU_len];omega),List.getElem?_eq_none (by simp;omega)]
  have p0:=hpF (foU φ A.final.length K)
  have k0:=keys_ints (foU φ A.final.length K)
  have hl1:(((foU φ A.final.length K).map fun x=>D.flat (.int .i64 x))).length=A.final.length:=by simp [foU_len]
  rw [hfin] at p0 k0 hl1 ⊢
  generalize ((List.range A.final.length).map fun x=>D.flat (.int .i64 ((φ x:Nat):Int)))=F1 at*
  clear hpass
  refine DW.walk ?_
  have hdt:(F1.drop 0).take A.final.length=F1:=by rw [List.drop_zero,← hl1,List.take_length]
  exact⟨.inr rfl,ResOk.one [(13107200007,some (.box F1))] rfl rfl ⟨rfl,trivial⟩ (Vw.le (Vw.bslA (.head _) (VwL.pers p0) (by omega) (Nat.le_refl _) (by omega) k0) (Le.of_eq (by rw [hdt])))⟩
theorem ResL.ptrTmp [Rnd] {P:Program} {N:Nat} {fn:Func} {s:DS} {we:Sg} {f':Fr} {x y:Tmp} {t:Nat} {cs:List D} {d:D} (hr:fn.results= #[.cell x t,.tmp y]) (h1:EsOk s.σ we we) (h2:FsOk s.σ we s.f f') (hx:lkF f' x= .ptr cs 0) (hy:lkF f' y=d) (hb:aggOf P t=some true) (hn:sizeOfT P t=some cs.length):ResL P fn N s we (.tup [.agg cs,d]):=
 ⟨f',h1,h2,fun w0 M0 B0 g a w hs=>by
  have h0:=hs.tm x
  rw [hx] at h0
  simp only [Rep] at h0
  obtain⟨b,o,e2,e3,e4,e5⟩:=h0
  obtain⟨vs,hl,hc⟩:=RepC.vals e5
  obtain⟨v,r1,r2⟩:=run_loadAt_rep (P:=P) (b:=b) (o:=o) hb hn part_all hc hl
  simp only [Instr.loadAt,Instr.sureAddr,Nat.add_zero,Sem.run_bind,Sem.run_pure,Result.andThen_ok] at r1
  rw [Nat.add_zero,Array.getD_eq_getD_getElem?] at e2
  refine⟨.tuple #[v,a.tmps.getD y undef],by simp [results,hr,e2,r1,asAddr],?_⟩
  simp only [Rep]
  refine⟨[_,_],rfl,?_⟩
  simp only [RepL]
  refine⟨_,_,rfl,?_,_,_,rfl,by rw [← hy];exact hs.tm y,rfl⟩
  exact r2.up⟩
noncomputable abbrev code99:Code:=Try.f99.body.getD .skip
theorem sub_le {N:Nat} {f:Fr} {σ:Sg} {d d':D} (t:Nat) (h:lkF f t=d) (hl:Le d d'):Sub N ⟨f,σ⟩ ⟨(t,d')::f,σ⟩:=fun w0 M0 B0 a w ⟨g,hs⟩=>⟨g,hs.setF t d' (hl _ _ _ _ hs.mlt (by have:=hs.tm t;rw [show lkF (DS.f ⟨f,σ⟩) t=d from h] at this;exact this))⟩
theorem q0_d {cc:Code} (hsel:selC [1,1,1,1,1,1,1,1,1,0,1,2,2] code99=some cc) (LR LB LT LF RR TT FQ G0 RW:List D) (n nR m y rl:Nat) (hn:0<n∧n≤512) (hm:m≤512) (hnR:nR≤4096) (hy:y<nR) (hrl:rl≤1000000) (p1:persL LR=true) (p2:persL LB=true) (p3:persL LT=true) (p4:persL LF=true) (p5:persL RR=true) (p6:persL TT=true) (p7:persL FQ=true) (p8:persL G0=true) (p9:persL RW=true) (hLT:partD false 1 (y*1) LT=some (.sl false 1 rl RW)) (hLR:partD false 1 (y*1) LR=some (.flat (.int .i64 ((0:Nat):Int)))) (v:Int) (q:Nat) (h0:0<rl) (hq:partD false 1 (0*1) RW=some (.flat (.int .i64 ((q:Nat):Int)))) (hqn:q<n) (hv:partD false 1 (q*1) TT=some (.flat (.int .i64 v))):
  ∀ G1,G0++ [.sl false 1 1 [.flat (.int .i64 v)]]=G1→persL G1=true→DW Try.prog 188 cc ⟨[(1,.ptr [.sl false 1 nR LR,.sl false 1 n LB,.sl false 1 nR LT] 0),(2,.ref 2 0),(5,.sl false 1 n LF),(8,.own 38 n),(9,.sl false 1 m RR),(16,.ref 16 0),(102,.sl false 1 nR LR),(103,.flat (.int .i64 ((nR:Nat):Int))),(104,.flat (.int .i64 ((y:Nat):Int)))],[(2,some (.box [.flat (.slice none 0 0),.flat (.slice none 0 0),.flat (.slice none 0 0)])),(38,some (.row 3 1 n TT)),(16,some (.box [.sl false 1 nR LR,.own 111 m,.own 112 y])),(111,some (.row 4 1 m FQ)),(112,some (.row 22 1 y G0))]⟩ (Nm 188 ⟨[(1,.ptr [.sl false 1 nR LR,.sl false 1 n LB,.sl false 1 nR LT] 0),(2,.ref 2 0),(5,.sl false 1 n LF),(8,.own 38 n),(9,.sl false 1 m RR),(16,.ref 16 0),(102,.sl false 1 nR LR),(103,.flat (.int .i64 ((nR:Nat):Int))),(104,.flat (.int .i64 (((y+1):Nat):Int)))],[(2,some (.box [.flat (.slice none 0 0),.flat (.slice none 0 0),.flat (.slice none 0 0)])),(38,some (.row 3 1 n TT)),(16,some (.box [.sl false 1 nR LR,.own 111 m,.own 112 (y+1)])),(111,some (.row 4 1 m FQ)),(112,some (.row 22 1 (y+1) G1))]⟩):=by
 intro G1 hG p10
 refine DW.sel hsel (by rfl) ?_
 refine DW.walkTo 46 ?_
 refine DW.sub (sub_le 21 rfl Le.full) ?_
 refine DW.walk ?_
 rw [hG]
 exact Nm.mk Sub.auto
theorem snocV (v:Nat→Int) (j:Nat):((List.range (j)).map fun p=>D.flat (.int .i64 (v p)))++ [.flat (.int .i64 (v (j)))]=((List.range (j+1)).map fun p=>D.flat (.int .i64 (v p))):=by simp [List.range_succ]
theorem persV (v:Nat→Int) (j:Nat):persL ((List.range (j)).map fun p=>D.flat (.int .i64 (v p)))=true:=persL_map (fun _=>rfl) _
theorem q1_d {cc:Code} (hsel:selC [1,1,1,1,1,1,1,1,1,0,1,2,2] code99=some cc) (LR LB LT LF RR TT FQ G0 RW:List D) (n nR m y rl:Nat) (hn:0<n∧n≤512) (hm:m≤512) (hnR:nR≤4096) (hy:y<nR) (hrl:rl≤1000000) (p1:persL LR=true) (p2:persL LB=true) (p3:persL LT=true) (p4:persL LF=true) (p5:persL RR=true) (p6:persL TT=true) (p7:persL FQ=true) (p8:persL G0=true) (p9:persL RW=true) (hLT:partD false 1 (y*1) LT=some (.sl false 1 rl RW)) (hLR:partD false 1 (y*1) LR=some (.flat (.int .i64 ((1:Nat):Int)))) (v:Nat→Int) (hP:∀ P,P<m→ ∃ t q:Nat,partD false 1 (P*1) RR=some (.flat (.int .i64 ((t:Nat):Int)))∧t<rl∧partD false 1 (t*1) RW=some (.flat (.int .i64 ((q:Nat):Int)))∧q<n∧partD false 1 (q*1) TT=some (.flat (.int .i64 (v P)))):
  ∀ G1,G0++ [.sl false 1 m ((List.range (m)).map fun p=>D.flat (.int .i64 (v p)))]=G1→persL G1=true→DW Try.prog 188 cc ⟨[(1,.ptr [.sl false 1 nR LR,.sl false 1 n LB,.sl false 1 nR LT] 0),(2,.ref 2 0),(5,.sl false 1 n LF),(8,.own 38 n),(9,.sl false 1 m RR),(16,.ref 16 0),(102,.sl false 1 nR LR),(103,.flat (.int .i64 ((nR:Nat):Int))),(104,.flat (.int .i64 ((y:Nat):Int)))],[(2,some (.box [.flat (.slice none 0 0),.flat (.slice none 0 0),.flat (.slice none 0 0)])),(38,some (.row 3 1 n TT)),(16,some (.box [.sl false 1 nR LR,.own 111 m,.own 112 y])),(111,some (.row 4 1 m FQ)),(112,some (.row 22 1 y G0))]⟩ (Nm 188 ⟨[(1,.ptr [.sl false 1 nR LR,.sl false 1 n LB,.sl false 1 nR LT] 0),(2,.ref 2 0),(5,.sl false 1 n LF),(8,.own 38 n),(9,.sl false 1 m RR),(16,.ref 16 0),(102,.sl false 1 nR LR),(103,.flat (.int .i64 ((nR:Nat):Int))),(104,.flat (.int .i64 (((y+1):Nat):Int)))],[(2,some (.box [.flat (.slice none 0 0),.flat (.slice none 0 0),.flat (.slice none 0 0)])),(38,some (.row 3 1 n TT)),(16,some (.box [.sl false 1 nR LR,.own 111 m,.own 112 (y+1)])),(111,some (.row 4 1 m FQ)),(112,some (.row 22 1 (y+1) G1))]⟩):=by
 have pV:=persV v
 intro G1 hG p10
 refine DW.sel hsel (by rfl) ?_
 refine DW.walkTo 28 ?_
 refine DW.adopt 21 113 3 1 rfl rfl ?_
 refine DW.walk ?_
 refine DW.loopA (fun P:Nat=>⟨[(19,.flat (.int .i64 ((y:Nat):Int))),(21,.own 113 P),(158,.sl false 1 m RR),(159,.flat (.int .i64 ((m:Nat):Int))),(160,.flat (.int .i64 ((P:Nat):Int))),(1,.ptr [.sl false 1 nR LR,.sl false 1 n LB,.sl false 1 nR LT] 0),(2,.ref 2 0),(5,.sl false 1 n LF),(8,.own 38 n),(9,.sl false 1 m RR),(16,.ref 16 0),(102,.sl false 1 nR LR),(103,.flat (.int .i64 ((nR:Nat):Int))),(104,.flat (.int .i64 ((y:Nat):Int)))],[(2,some (.box [.flat (.slice none 0 0),.flat (.slice none 0 0),.flat (.slice none 0 0)])),(38,some (.row 3 1 n TT)),(16,some (.box [.sl false 1 nR LR,.own 111 m,.own 112 y])),(111,some (.row 4 1 m FQ)),(112,some (.row 22 1 y G0)),(113,some (.row 3 1 P ((List.range (P)).map fun p=>D.flat (.int .i64 (v p)))))]⟩) (fun P=>P≤m) (fun P=>m - P) 0 ?_ (Nat.zero_le _)
 intro P hP2
 rcases Nat.lt_or_ge P m with hlt|hge
 ·obtain⟨t,q,a1,a2,a3,a4,a5⟩:=hP P hlt
  have e1:=snocV v P
  have w0:=pV P
  have w1:=pV (P+1)
  generalize hV1:((List.range (P+1)).map fun p=>D.flat (.int .i64 (v p)))=V1 at*
  generalize ((List.range (P)).map fun p=>D.flat (.int .i64 (v p)))=V0 at*
  clear hP pV
  refine DW.walk ?_
  rw [e1]
  exact⟨P+1,by omega,by omega,by rw [hV1];exact Sub.auto⟩
 ·obtain rfl:m=P:=by omega
  have w0:=pV m
  generalize ((List.range (m)).map fun p=>D.flat (.int .i64 (v p)))=V0 at*
  clear hP pV
  refine DW.walkTo 46 ?_
  refine DW.sub (s':=⟨[(21,.sl false 1 m V0),(19,.flat (.int .i64 ((y:Nat):Int))),(1,.ptr [.sl false 1 nR LR,.sl false 1 n LB,.sl false 1 nR LT] 0),(2,.ref 2 0),(5,.sl false 1 n LF),(8,.own 38 n),(9,.sl false 1 m RR),(16,.ref 16 0),(102,.sl false 1 nR LR),(103,.flat (.int .i64 ((nR:Nat):Int))),(104,.flat (.int .i64 ((y:Nat):Int)))],[(2,some (.box [.flat (.slice none 0 0),.flat (.slice none 0 0),.flat (.slice none 0 0)])),(38,some (.row 3 1 n TT)),(16,some (.box [.sl false 1 nR LR,.own 111 m,.own 112 y])),(111,some (.row 4 1 m FQ)),(112,some (.row 22 1 y G0))]⟩) Sub.auto ?_
  refine DW.walk ?_
  rw [hG]
  exact Nm.mk Sub.auto
theorem q2_d {cc:Code} (hsel:selC [1,1,1,1,1,1,1,1,1,0,1,2,2] code99=some cc) (LR LB LT LF RR TT FQ G0 RW:List D) (n nR m y rl:Nat) (hn:0<n∧n≤512) (hm:m≤512) (hnR:nR≤4096) (hy:y<nR) (hrl:rl≤1000000) (p1:persL LR=true) (p2:persL LB=true) (p3:persL LT=true) (p4:persL LF=true) (p5:persL RR=true) (p6:persL TT=true) (p7:persL FQ=true) (p8:persL G0=true) (p9:persL RW=true) (hLT:partD false 1 (y*1) LT=some (.sl false 1 rl RW)) (hLR:partD false 1 (y*1) LR=some (.flat (.int .i64 ((2:Nat):Int)))) (v:Nat→Int) (hW:∀ w,w<m→ ∃ t:Nat,partD false 1 (w*1) RR=some (.flat (.int .i64 ((t:Nat):Int)))∧(t:Int)*(n:Int)≤300000∧t<n) (hP:∀ w u t t':Nat,w<m→u<m→partD false 1 (w*1) RR=some (.flat (.int .i64 ((t:Nat):Int)))→partD false 1 (u*1) RR=some (.flat (.int .i64 ((t':Nat):Int)))→ ∃ q:Nat,t*n+t'<rl∧partD false 1 ((t*n+t')*1) RW=some (.flat (.int .i64 ((q:Nat):Int)))∧q<n∧partD false 1 (q*1) TT=some (.flat (.int .i64 (v (w*m+u))))):
  ∀ G1,G0++ [.sl false 1 (m*m) ((List.range (m*m)).map fun p=>D.flat (.int .i64 (v p)))]=G1→persL G1=true→DW Try.prog 188 cc ⟨[(1,.ptr [.sl false 1 nR LR,.sl false 1 n LB,.sl false 1 nR LT] 0),(2,.ref 2 0),(5,.sl false 1 n LF),(8,.own 38 n),(9,.sl false 1 m RR),(16,.ref 16 0),(102,.sl false 1 nR LR),(103,.flat (.int .i64 ((nR:Nat):Int))),(104,.flat (.int .i64 ((y:Nat):Int)))],[(2,some (.box [.flat (.slice none 0 0),.flat (.slice none 0 0),.flat (.slice none 0 0)])),(38,some (.row 3 1 n TT)),(16,some (.box [.sl false 1 nR LR,.own 111 m,.own 112 y])),(111,some (.row 4 1 m FQ)),(112,some (.row 22 1 y G0))]⟩ (Nm 188 ⟨[(1,.ptr [.sl false 1 nR LR,.sl false 1 n LB,.sl false 1 nR LT] 0),(2,.ref 2 0),(5,.sl false 1 n LF),(8,.own 38 n),(9,.sl false 1 m RR),(16,.ref 16 0),(102,.sl false 1 nR LR),(103,.flat (.int .i64 ((nR:Nat):Int))),(104,.flat (.int .i64 (((y+1):Nat):Int)))],[(2,some (.box [.flat (.slice none 0 0),.flat (.slice none 0 0),.flat (.slice none 0 0)])),(38,some (.row 3 1 n TT)),(16,some (.box [.sl false 1 nR LR,.own 111 m,.own 112 (y+1)])),(111,some (.row 4 1 m FQ)),(112,some (.row 22 1 (y+1) G1))]⟩):=by
 have pV:=persV v
 intro G1 hG p10
 refine DW.sel hsel (by rfl) ?_
 refine DW.walkTo 28 ?_
 refine DW.adopt 21 113 3 1 rfl rfl ?_
 refine DW.walk ?_
 refine DW.loopA (fun w:Nat=>⟨[(19,.flat (.int .i64 ((y:Nat):Int))),(21,.own 113 (w*m)),(110,.sl false 1 m RR),(111,.flat (.int .i64 ((m:Nat):Int))),(112,.flat (.int .i64 ((w:Nat):Int))),(1,.ptr [.sl false 1 nR LR,.sl false 1 n LB,.sl false 1 nR LT] 0),(2,.ref 2 0),(5,.sl false 1 n LF),(8,.own 38 n),(9,.sl false 1 m RR),(16,.ref 16 0),(102,.sl false 1 nR LR),(103,.flat (.int .i64 ((nR:Nat):Int))),(104,.flat (.int .i64 ((y:Nat):Int)))],[(2,some (.box [.flat (.slice none 0 0),.flat (.slice none 0 0),.flat (.slice none 0 0)])),(38,some (.row 3 1 n TT)),(16,some (.box [.sl false 1 nR LR,.own 111 m,.own 112 y])),(111,some (.row 4 1 m FQ)),(112,some (.row 22 1 y G0)),(113,some (.row 3 1 (w*m) ((List.range (w*m)).map fun p=>D.flat (.int .i64 (v p)))))]⟩) (fun w=>w≤m) (fun w=>m - w) 0 ?_ (Nat.zero_le _) (by rw [Nat.zero_mul];exact Sub.auto)
 intro w hw2
 rcases Nat.lt_or_ge w m with hlt|hge
 ·obtain⟨t,a1,a2,a3⟩:=hW w hlt
  have w0:=pV (w*m)
  obtain⟨b,hb⟩:∃ b,w*m=b:=⟨_,rfl⟩
  have hb1:(w+1)*m=b+m:=by rw [Nat.succ_mul,hb]
  have hbm:b≤262144:=by rw [← hb];exact Nat.le_trans (Nat.mul_le_mul (show w≤512 by omega) hm) (by decide)
  rw [hb] at w0 ⊢
  generalize hV0:((List.range (b)).map fun p=>D.flat (.int .i64 (v p)))=V0 at*
  refine DW.walk ?_
  refine DW.loopA (fun u:Nat=>⟨[(25,.flat (.int .i64 ((t:Nat):Int))),(116,.sl false 1 m RR),(117,.flat (.int .i64 ((m:Nat):Int))),(118,.flat (.int .i64 ((u:Nat):Int))),(19,.flat (.int .i64 ((y:Nat):Int))),(21,.own 113 (b+u)),(110,.sl false 1 m RR),(111,.flat (.int .i64 ((m:Nat):Int))),(112,.flat (.int .i64 ((w:Nat):Int))),(1,.ptr [.sl false 1 nR LR,.sl false 1 n LB,.sl false 1 nR LT] 0),(2,.ref 2 0),(5,.sl false 1 n LF),(8,.own 38 n),(9,.sl false 1 m RR),(16,.ref 16 0),(102,.sl false 1 nR LR),(103,.flat (.int .i64 ((nR:Nat):Int))),(104,.flat (.int .i64 ((y:Nat):Int)))],[(2,some (.box [.flat (.slice none 0 0),.flat (.slice none 0 0),.flat (.slice none 0 0)])),(38,some (.row 3 1 n TT)),(16,some (.box [.sl false 1 nR LR,.own 111 m,.own 112 y])),(111,some (.row 4 1 m FQ)),(112,some (.row 22 1 y G0)),(113,some (.row 3 1 (b+u) ((List.range (b+u)).map fun p=>D.flat (.int .i64 (v p)))))]⟩) (fun u=>u≤m) (fun u=>m - u) 0 ?_ (Nat.zero_le _) (by rw [Nat.add_zero,hV0];exact Sub.auto)
  intro u hu2
  rcases Nat.lt_or_ge u m with hul|hug
  ·obtain⟨t',c1,c2,c3⟩:=hW u hul
   obtain⟨q,d1,d2,d3,d4⟩:=hP w u t t' hlt hul a1 c1
   rw [hb] at d4
   have e1:=snocV v (b+u)
   have w1:=pV (b+u)
   have w2:=pV (b+u+1)
   generalize hV1:((List.range (b+u+1)).map fun p=>D.flat (.int .i64 (v p)))=V1 at*
   generalize ((List.range (b+u)).map fun p=>D.flat (.int .i64 (v p)))=VX at*
   clear hP pV hW
   refine DW.walk ?_
   rw [e1]
   exact⟨u+1,by omega,by omega,by rw [show b+(u+1)=b+u+1 from rfl,hV1];exact Sub.auto⟩
  ·obtain rfl:m=u:=by omega
   have w1:=pV (b+m)
   generalize hVX:((List.range (b+m)).map fun p=>D.flat (.int .i64 (v p)))=VX at*
   clear hP pV hW
   refine DW.walk ?_
   exact⟨w+1,by omega,by omega,by rw [hb1,hVX];exact Sub.auto⟩
 ·obtain rfl:m=w:=by omega
  have w0:=pV (m*m)
  have hbm:m*m≤262144:=Nat.le_trans (Nat.mul_le_mul hm hm) (by decide)
  obtain⟨b,hb⟩:∃ b,m*m=b:=⟨_,rfl⟩
  rw [hb] at w0 hbm hG ⊢
  generalize ((List.range (b)).map fun p=>D.flat (.int .i64 (v p)))=V0 at*
  clear hP pV hW
  refine DW.walkTo 46 ?_
  refine DW.sub (s':=⟨[(21,.sl false 1 b V0),(19,.flat (.int .i64 ((y:Nat):Int))),(1,.ptr [.sl false 1 nR LR,.sl false 1 n LB,.sl false 1 nR LT] 0),(2,.ref 2 0),(5,.sl false 1 n LF),(8,.own 38 n),(9,.sl false 1 m RR),(16,.ref 16 0),(102,.sl false 1 nR LR),(103,.flat (.int .i64 ((nR:Nat):Int))),(104,.flat (.int .i64 ((y:Nat):Int)))],[(2,some (.box [.flat (.slice none 0 0),.flat (.slice none 0 0),.flat (.slice none 0 0)])),(38,some (.row 3 1 n TT)),(16,some (.box [.sl false 1 nR LR,.own 111 m,.own 112 y])),(111,some (.row 4 1 m FQ)),(112,some (.row 22 1 y G0))]⟩) Sub.auto ?_
  refine DW.walk ?_
  rw [hG]
  exact Nm.mk Sub.auto
end Go.Proofs.Ytichhfbkhnimmaa
