/- Following: the rounds. No condition. -/
import Derived.Test.YtichhfbkhnimmaaVFO5
import Derived.Test.YtichhfbkhnimmaaVQC2
set_option linter.unusedSimpArgs false
set_option linter.unusedVariables false
set_option maxHeartbeats 4000000
set_option maxRecDepth 8000
namespace Go.Proofs.Ytichhfbkhnimmaa
open Go Go.RowKit Go.PP Go.Dm Go.Rt Go.Mn
theorem x0_ {cc:Code} (hsel:selC [1,1,1,1,0,1,2,2] cf_=some cc) (A B:Au) (φ:Nat→Nat) (hok:AuOk A) (hokB:AuOk B) (hiso:Iso A B φ) (hBf:B.f.length=A.f.length) (K:List Bool) (hK:K.length=A.f.length):
  DW Try.prog 133 cc ⟨[(2,.ptr [.sl false 1 A.r.length (A.r.map fun x=>D.flat (.int .i64 x)),.sl false 1 A.f.length (A.f.map fun x=>D.flat (.bool x)),.sl false 1 A.r.length (aj_ A.to)] 0),(3,.ptr [.sl false 1 B.r.length (B.r.map fun x=>D.flat (.int .i64 x)),.sl false 1 A.f.length (B.f.map fun x=>D.flat (.bool x)),.sl false 1 A.r.length (aj_ B.to)] 0),(5,.ref 13107200005 0),(6,.flat (.int .i64 ((A.f.length:Nat):Int))),(7,.clo (.func 123) [] [.ref 13107200005 0]),(8,.flat (.bool true))],[(13107200005,some (.box [.bsl 13107200007 0 A.f.length A.f.length])),(13107200007,some (.box ((foU φ A.f.length K).map fun x=>D.flat (.int .i64 x))))]⟩ (Nm 133 ⟨[(2,.ptr [.sl false 1 A.r.length (A.r.map fun x=>D.flat (.int .i64 x)),.sl false 1 A.f.length (A.f.map fun x=>D.flat (.bool x)),.sl false 1 A.r.length (aj_ A.to)] 0),(3,.ptr [.sl false 1 B.r.length (B.r.map fun x=>D.flat (.int .i64 x)),.sl false 1 A.f.length (B.f.map fun x=>D.flat (.bool x)),.sl false 1 A.r.length (aj_ B.to)] 0),(5,.ref 13107200005 0),(6,.flat (.int .i64 ((A.f.length:Nat):Int))),(7,.clo (.func 123) [] [.ref 13107200005 0]),(8,.flat (.bool (pass A K).2))],[(13107200005,some (.box [.bsl 13107200007 0 A.f.length A.f.length])),(13107200007,some (.box ((foU φ A.f.length (pass A K).1).map fun x=>D.flat (.int .i64 x))))]⟩):=by
 have q1:=ab_ A.r
 have q2:=al_ A.f
 have q3:=ao_ A.to
 have q4:=ab_ B.r
 have q5:=al_ B.f
 have q6:=ao_ B.to
 have hpF:=fun U:List Int=>ab_ U
 have hlen:∀ i,i≤A.r.length→(fSym A (K,false) i).1.length=A.f.length:=fun i hi=>(FInv.sym hok hK (x:=(K,false)) ⟨rfl,fun _=>rfl,fun h=>by cases h⟩ i hi).len.trans hK
 have hrow:=fun (c2:Code) (h:selC [1,1,1,1,0,1,2,2,1,2,1,1,2,2] cf_=some c2)=>ze_ h A B φ hok hokB hiso hBf
 refine DW.sel hsel (by rfl) ?_
 have p00:=hpF (foU φ A.f.length K)
 have k00:=am_ (foU φ A.f.length K)
 have hRl:A.r.length≤4096:=hok.alpha.hi
 generalize hF0:((foU φ A.f.length K).map fun x=>D.flat (.int .i64 x))=F0 at*
 refine DW.walk ?_
 refine DW.loopA (fun i:Nat=>⟨[(26,.sl false 1 A.r.length (A.r.map fun x=>D.flat (.int .i64 x))),(27,.flat (.int .i64 ((A.r.length:Nat):Int))),(28,.flat (.int .i64 ((i:Nat):Int))),(2,.ptr [.sl false 1 A.r.length (A.r.map fun x=>D.flat (.int .i64 x)),.sl false 1 A.f.length (A.f.map fun x=>D.flat (.bool x)),.sl false 1 A.r.length (aj_ A.to)] 0),(3,.ptr [.sl false 1 B.r.length (B.r.map fun x=>D.flat (.int .i64 x)),.sl false 1 A.f.length (B.f.map fun x=>D.flat (.bool x)),.sl false 1 A.r.length (aj_ B.to)] 0),(5,.ref 13107200005 0),(6,.flat (.int .i64 ((A.f.length:Nat):Int))),(7,.clo (.func 123) [] [.ref 13107200005 0]),(8,.flat (.bool (fSym A (K,false) i).2))],[(13107200005,some (.box [.bsl 13107200007 0 A.f.length A.f.length])),(13107200007,some (.box ((foU φ A.f.length (fSym A (K,false) i).1).map fun x=>D.flat (.int .i64 x))))]⟩) (fun i=>i≤A.r.length) (fun i=>A.r.length - i) 0 ?_ (Nat.zero_le _) (by show Sub _ _ ⟨[(26,.sl false 1 A.r.length (A.r.map fun x=>D.flat (.int .i64 x))),(27,.flat (.int .i64 ((A.r.length:Nat):Int))),(28,.flat (.int .i64 ((0:Nat):Int))),(2,.ptr [.sl false 1 A.r.length (A.r.map fun x=>D.flat (.int .i64 x)),.sl false 1 A.f.length (A.f.map fun x=>D.flat (.bool x)),.sl false 1 A.r.length (aj_ A.to)] 0),(3,.ptr [.sl false 1 B.r.length (B.r.map fun x=>D.flat (.int .i64 x)),.sl false 1 A.f.length (B.f.map fun x=>D.flat (.bool x)),.sl false 1 A.r.length (aj_ B.to)] 0),(5,.ref 13107200005 0),(6,.flat (.int .i64 ((A.f.length:Nat):Int))),(7,.clo (.func 123) [] [.ref 13107200005 0]),(8,.flat (.bool false))],[(13107200005,some (.box [.bsl 13107200007 0 A.f.length A.f.length])),(13107200007,some (.box ((foU φ A.f.length K).map fun x=>D.flat (.int .i64 x))))]⟩;rw [hF0];exact Sub.auto)
 intro i hi
 rcases Nat.lt_or_ge i A.r.length with hlt|hge
 ·refine (hrow _ (by rfl) i hlt _ _ (hlen i hi)).mono ?_
  rintro e s' ⟨rfl,hsub⟩
  exact⟨i+1,by omega,by omega,hsub⟩
 ·obtain rfl:A.r.length=i:=by omega
  have p0:=hpF (foU φ A.f.length (fSym A (K,false) A.r.length).1)
  have k0:=am_ (foU φ A.f.length (fSym A (K,false) A.r.length).1)
  show DW _ _ _ _ _
  unfold pass
  generalize hF1:((foU φ A.f.length (fSym A (K,false) A.r.length).1).map fun x=>D.flat (.int .i64 x))=F1 at*
  clear hrow
  refine DW.walk ?_
  exact Nm.mk Sub.auto
theorem vn_ (A B:Au) (φ:Nat→Nat) (hok:AuOk A) (hokB:AuOk B) (hiso:Iso A B φ) (hBf:B.f.length=A.f.length) (hall:∀ x:Nat,x<A.f.length→(x:Int)∈ad_ A):DFun Try.prog 100 [auD A,auD B] (.sl false 1 A.f.length ((List.range A.f.length).map fun x=>D.flat (.int .i64 ((φ x:Nat):Int)))):=by
 have q1:=ab_ A.r
 have q2:=al_ A.f
 have q3:=ao_ A.to
 have q4:=ab_ B.r
 have q5:=al_ B.f
 have q6:=ao_ B.to
 have hpF:=fun U:List Int=>ab_ U
 have hrep:=h2_ (args':=[.sl true 1 1 [.flat (.int .i64 (-1))],.flat (.int .i64 ((A.f.length:Nat):Int))]) (pp_ (-1) A.f.length hok.lo (by have:=hok.hi;omega)) ⟨Le.full,Le.refl _,trivial⟩ (Le.refl _)
 have hTl:A.to.length=A.r.length:=hok.len
 have hn:=hok.hi
 have hn0:=hok.lo
 have hpass:=fun (c2:Code) (h:selC [1,1,1,1,0,1,2,2] cf_=some c2)=>x0_ h A B φ hok hokB hiso hBf
 have h5:=IdAt.of 5 13107200005
 have e0:List.replicate A.f.length (D.flat (.int .i64 (-1)))=((foU φ A.f.length (List.replicate A.f.length false)).map fun x=>D.flat (.int .i64 x)):=by rw [uh_,List.map_replicate]
 rw [e0] at hrep
 have p00:=hpF (foU φ A.f.length (List.replicate A.f.length false))
 have k00:=am_ (foU φ A.f.length (List.replicate A.f.length false))
 rw [a1_,a1_,hiso.len.trans hTl,hBf,hTl]
 generalize hF0:((foU φ A.f.length (List.replicate A.f.length false)).map fun x=>D.flat (.int .i64 x))=F0 at*
 refine DFun.enterA Try.func100 Try.ntmps100 ?_
 refine DW.walk ?_
 refine DW.loopA (fun x:List Bool × Bool=>⟨[(2,.ptr [.sl false 1 A.r.length (A.r.map fun x=>D.flat (.int .i64 x)),.sl false 1 A.f.length (A.f.map fun x=>D.flat (.bool x)),.sl false 1 A.r.length (aj_ A.to)] 0),(3,.ptr [.sl false 1 B.r.length (B.r.map fun x=>D.flat (.int .i64 x)),.sl false 1 A.f.length (B.f.map fun x=>D.flat (.bool x)),.sl false 1 A.r.length (aj_ B.to)] 0),(5,.ref 13107200005 0),(6,.flat (.int .i64 ((A.f.length:Nat):Int))),(7,.clo (.func 123) [] [.ref 13107200005 0]),(8,.flat (.bool x.2))],[(13107200005,some (.box [.bsl 13107200007 0 A.f.length A.f.length])),(13107200007,some (.box ((foU φ A.f.length x.1).map fun x=>D.flat (.int .i64 x))))]⟩) (fun x=>x.1.length=A.f.length∧(x.2=false→ip_ A (fun y=>kn x.1 y=true))) (fun x=>if x.2 then x.1.count false+1 else 0) (List.replicate A.f.length false,true) ?_ ⟨by simp,fun h=>by cases h⟩ (by show Sub _ _ ⟨[(2,.ptr [.sl false 1 A.r.length (A.r.map fun x=>D.flat (.int .i64 x)),.sl false 1 A.f.length (A.f.map fun x=>D.flat (.bool x)),.sl false 1 A.r.length (aj_ A.to)] 0),(3,.ptr [.sl false 1 B.r.length (B.r.map fun x=>D.flat (.int .i64 x)),.sl false 1 A.f.length (B.f.map fun x=>D.flat (.bool x)),.sl false 1 A.r.length (aj_ B.to)] 0),(5,.ref 13107200005 0),(6,.flat (.int .i64 ((A.f.length:Nat):Int))),(7,.clo (.func 123) [] [.ref 13107200005 0]),(8,.flat (.bool true))],[(13107200005,some (.box [.bsl 13107200007 0 A.f.length A.f.length])),(13107200007,some (.box ((foU φ A.f.length (List.replicate A.f.length false)).map fun x=>D.flat (.int .i64 x))))]⟩;rw [hF0];exact Sub.auto)
 rintro⟨K,m⟩ ⟨hK,hcl⟩
 simp only at hK hcl
 cases m with
 |true   =>
  have hinv:=v3_ hok hK
  refine (hpass _ (by rfl) K hK).mono ?_
  rintro e s' ⟨rfl,hsub⟩
  refine⟨pass A K,⟨hinv.len.trans hK,fun h=>?_⟩,?_,hsub⟩
  ·have h1:=hinv.no h
   rw [h1]
   exact no_ hok hK h
  ·show  (if (pass A K).2=true then _ else _)<_
   by_cases h:(pass A K).2=true
   ·    have:=hinv.yes h
        simp only [h,if_true]
        omega
   ·simp [h]
 |false  =>
  have hkn:∀ x,x<A.f.length→kn K x=true:=fun x hx=>by
   have:=mi_ hok (hcl rfl) (hall x hx)
   simpa using this
  have   hfin:((foU φ A.f.length K).map fun x=>D.flat (.int .i64 x))=(List.range A.f.length).map fun x=>D.flat (.int .i64 ((φ x:Nat):Int)):=by
   refine List.ext_getElem? fun a=>?_
   by_cases ha:a<A.f.length
   ·    rw [List.getElem?_map,ds_ ha,if_pos (hkn a ha)]
        simp [ha]
   ·rw [List.getElem?_eq_none (by simp [d6_];omega),List.getElem?_eq_none (by simp;omega)]
  have p0:=hpF (foU φ A.f.length K)
  have k0:=am_ (foU φ A.f.length K)
  have hl1:(((foU φ A.f.length K).map fun x=>D.flat (.int .i64 x))).length=A.f.length:=by simp [d6_]
  rw [hfin] at p0 k0 hl1 ⊢
  generalize ((List.range A.f.length).map fun x=>D.flat (.int .i64 ((φ x:Nat):Int)))=F1 at*
  clear hpass
  refine DW.walk ?_
  have hdt:(F1.drop 0).take A.f.length=F1:=by rw [List.drop_zero,← hl1,List.take_length]
  exact⟨.inr rfl,ResOk.one [(13107200007,some (.box F1))] rfl rfl ⟨rfl,trivial⟩ (Vw.le (Vw.bslA (.head _) (VwL.pers p0) (by omega) (Nat.le_refl _) (by omega) k0) (Le.of_eq (by rw [hdt])))⟩
theorem ResL.ptrTmp [Rnd] {P:Program} {N:Nat} {fn:Func} {s:DS} {we:Sg} {f':Fr} {x y:Tmp} {t:Nat} {cs:List D} {d:D} (hr:fn.results= #[.cell x t,.tmp y]) (h1:EsOk s.σ we we) (h2:FsOk s.σ we s.f f') (hx:lkF f' x= .ptr cs 0) (hy:lkF f' y=d) (hb:aggOf P t=some true) (hn:sizeOfT P t=some cs.length):ResL P fn N s we (.tup [.agg cs,d]):=
 ⟨f',h1,h2,fun w0 M0 B0 g a w hs=>by
  have h0:=hs.tm x
  rw [hx] at h0
  simp only [Rep] at h0
  obtain⟨b,o,e2,e3,e4,e5⟩:=h0
  obtain⟨vs,hl,hc⟩:=RepC.vals e5
  obtain⟨v,r1,r2⟩:=b6_ (P:=P) (b:=b) (o:=o) hb hn lg_ hc hl
  simp only [Instr.loadAt,Instr.sureAddr,Nat.add_zero,Sem.run_bind,Sem.run_pure,Result.andThen_ok] at r1
  rw [Nat.add_zero,Array.getD_eq_getD_getElem?] at e2
  refine⟨.tuple #[v,a.tmps.getD y undef],by simp [results,hr,e2,r1,asAddr],?_⟩
  simp only [Rep]
  refine⟨[_,_],rfl,?_⟩
  simp only [RepL]
  refine⟨_,_,rfl,?_,_,_,rfl,by rw [← hy];exact hs.tm y,rfl⟩
  exact r2.up⟩
theorem w4_ {cc:Code} (hsel:selC [1,1,1,1,1,1,1,1,1] m4_=some cc) (A:Au) (hk:chk A=0) (LF:List D) (pLF:persL LF=true):
  DW Try.prog 188 cc ⟨[(1,.ptr [.sl false 1 A.r.length (A.r.map fun x=>D.flat (.int .i64 x)),.sl false 1 A.f.length (A.f.map fun x=>D.flat (.bool x)),.sl false 1 A.r.length (aj_ A.to)] 0),(2,.ref 2 0),(5,.sl false 1 A.f.length LF),(8,.own 38 A.f.length),(9,.sl false 1 (af_ A).length ((af_ A).map fun x=>D.flat (.int .i64 x))),(16,.ref 16 0)],[(2,some (.box [.flat (.slice none 0 0),.flat (.slice none 0 0),.flat (.slice none 0 0)])),(38,some (.row 3 1 A.f.length (((List.range A.f.length).map (toQ A)).map fun x=>D.flat (.int .i64 x)))),(16,some (.box [.sl false 1 A.r.length (A.r.map fun x=>D.flat (.int .i64 x)),.own 111 (af_ A).length,.own 112 0])),(111,some (.row 4 1 (af_ A).length (((List.range (af_ A).length).map (qF A (af_ A))).map fun x=>D.flat (.bool x)))),(112,some (.row 22 1 0 []))]⟩ (fun e s=>(e= .normal∨e= .ret)∧ResL Try.prog Try.f99 188 s [(38,some (.row 3 1 A.f.length (((List.range A.f.length).map (toQ A)).map fun x=>D.flat (.int .i64 x))))] (.tup [auD (quoA A (af_ A)),.own 38 A.f.length])):=by
 have hok:=a6_ hk
 have hnn:=hok.hi
 have hlo:=hok.lo
 have hTl:A.to.length=A.r.length:=hok.len
 have hrkl:A.r.length≤4096:=hok.alpha.hi
 have hm5:(af_ A).length≤512:=Nat.le_trans ((cx_ hok).len hok) hnn
 have q1:=ab_ A.r
 have q2:=al_ A.f
 have q3:=ao_ A.to
 have u0:=ab_ (af_ A)
 have t0:=ab_ ((List.range A.f.length).map (toQ A))
 have v0:=al_ ((List.range (af_ A).length).map (qF A (af_ A)))
 have hpRr:=fun t:List (List Int)=>ao_ t
 have hRp:∀ (i:Nat) (x:Int),(af_ A)[i]?=some x→partD false 1 (i*1) ((af_ A).map fun x=>D.flat (.int .i64 x))=some (.flat (.int .i64 x)):=fun i x h=>an_ h
 have hRf:∀ i,i<(af_ A).length→ ∃ t:Nat,(af_ A)[i]?=some (t:Int)∧t<A.f.length:=fun i h=>by
  have hx:(af_ A)[i]?=some (af_ A)[i]:=by simp
  have hm:=(cx_ hok).found _ (List.mem_of_getElem? hx)
  obtain⟨x0,x1⟩:=b0_ hok hm
  obtain⟨t,ht⟩:=Int.eq_ofNat_of_zero_le x0
  exact⟨t,by rw [hx,ht],by omega⟩
 have hRK:∀ (t:Nat) (b:Int),A.r[t]?=some b→partD false 1 (t*1) (A.r.map fun x=>D.flat (.int .i64 x))=some (.flat (.int .i64 b)):=fun t b h=>an_ h
 have hTO:∀ (t:Nat) (b:List Int),A.to[t]?=some b→partD false 1 (t*1) (aj_ A.to)=some (.sl false 1 b.length (b.map fun x=>D.flat (.int .i64 x))):=fun t b h=>dc_ h
 have hTTp:∀ q,q<A.f.length→partD false 1 (q*1) (((List.range A.f.length).map (toQ A)).map fun x=>D.flat (.int .i64 x))=some (.flat (.int .i64 (toQ A q))):=fun q hq=>an_ (by simp [hq])
 have hsn:∀ (i:Nat) (k:Int),A.r[i]?=some k→aj_ ((ap_ (af_ A).length (qT A (af_ A)) A.r).take (i+1))=aj_ ((ap_ (af_ A).length (qT A (af_ A)) A.r).take i)++ [.sl false 1 (a3_ (af_ A).length (qT A (af_ A)) i k).length ((a3_ (af_ A).length (qT A (af_ A)) i k).map fun x=>D.flat (.int .i64 x))]:=fun i k h=>ml_ (g9_ h)
 have hfew:=bj_ hok
 have e1:auD (quoA A (af_ A))= .agg [.sl false 1 A.r.length (A.r.map fun x=>D.flat (.int .i64 x)),.sl false 1 (af_ A).length (((List.range (af_ A).length).map (qF A (af_ A))).map fun x=>D.flat (.bool x)),.sl false 1 A.r.length (aj_ (ap_ (af_ A).length (qT A (af_ A)) A.r))]:=by
  rw [a1_]
  unfold quoA d7_
  simp only [List.length_map,List.length_range]
  rw [show (ap_ (af_ A).length (qT A (af_ A)) A.r).length=A.r.length by simp [ap_]]
 have etk:(ap_ (af_ A).length (qT A (af_ A)) A.r).take A.r.length=ap_ (af_ A).length (qT A (af_ A)) A.r:=List.take_of_length_le (by simp [ap_])
 have er0:∀ T:List (List Int),aj_ (T.take 0)=[]:=fun T=>rfl
 have c0:=fun (y:Nat) (h:A.r[y]?=some ((0:Nat):Int))=>zv_ hok h (af_ A).length
 have c1:=fun (y:Nat) (h:A.r[y]?=some ((1:Nat):Int)) (P t:Nat) (ht:(af_ A)[P]?=some (t:Int))=>abk hok h ht
 have c2:=fun (y:Nat) (h:A.r[y]?=some ((2:Nat):Int)) (w v t u:Nat) (ht:(af_ A)[w]?=some (t:Int)) (hu:(af_ A)[v]?=some (u:Int))=>abl hok h ht hu
 have hrk:∀ (i:Nat) (x:Int),A.r[i]?=some x→ ∃ k:Nat,x=(k:Int)∧k≤2:=fun i x h=>o7_ hok h
 rw [e1]
 obtain⟨m,hm⟩:∃ m,(af_ A).length=m:=⟨_,rfl⟩
 obtain⟨n,hn⟩:∃ n,A.f.length=n:=⟨_,rfl⟩
 rw [hm] at hm5 hRf hsn c0 c1 c2 etk v0 e1 ⊢
 rw [hn] at hnn hlo hRf hTTp c2 t0 ⊢
 generalize hRRe:((af_ A).map fun x=>D.flat (.int .i64 x))=RR at*
 generalize (((List.range n).map (toQ A)).map fun x=>D.flat (.int .i64 x))=TT at*
 generalize (((List.range m).map (qF A (af_ A))).map fun x=>D.flat (.bool x))=FQ at*
 generalize (A.r.map fun x=>D.flat (.int .i64 x))=LR at*
 generalize (A.f.map fun x=>D.flat (.bool x))=LB at*
 generalize aj_ A.to=LT at*
 refine DW.sel hsel (by rfl) ?_
 refine DW.walk ?_
 refine DW.loopA (fun y:Nat=>⟨[(1,.ptr [.sl false 1 A.r.length LR,.sl false 1 n LB,.sl false 1 A.r.length LT] 0),(2,.ref 2 0),(5,.sl false 1 n LF),(8,.own 38 n),(9,.sl false 1 m RR),(16,.ref 16 0),(102,.sl false 1 A.r.length LR),(103,.flat (.int .i64 ((A.r.length:Nat):Int))),(104,.flat (.int .i64 ((y:Nat):Int)))],[(2,some (.box [.flat (.slice none 0 0),.flat (.slice none 0 0),.flat (.slice none 0 0)])),(38,some (.row 3 1 n TT)),(16,some (.box [.sl false 1 A.r.length LR,.own 111 m,.own 112 y])),(111,some (.row 4 1 m FQ)),(112,some (.row 22 1 y (aj_ ((ap_ m (qT A (af_ A)) A.r).take y))))]⟩) (fun y=>y≤A.r.length) (fun y=>A.r.length - y) 0 ?_ (Nat.zero_le _) (by rw [er0];exact Sub.auto)
 intro y hy
 rcases Nat.lt_or_ge y A.r.length with hyl|hyg
 ·obtain ⟨x,hx⟩:∃ x,A.r[y]?=some x:=⟨A.r[y],by simp⟩
  obtain⟨k,rfl,hk2⟩:=hrk y x hx
  have hpk:=hRK y _ hx
  have hs:=hsn y _ hx
  have w0:=hpRr ((ap_ m (qT A (af_ A)) A.r).take y)
  have w1:=hpRr ((ap_ m (qT A (af_ A)) A.r).take (y+1))
  rcases (show k=0∨k=1∨k=2 by omega) with rfl|rfl|rfl
  ·obtain⟨row,q,e1,e2,e3,e4,e5⟩:=c0 y hx
   have htab:a3_ m (qT A (af_ A)) y ((0:Nat):Int)=[toQ A q]:=by rw [e5];simp [a3_,ba_]
   rw [htab] at hs
   have hG:=hs.symm
   refine (ael (by rfl) LR LB LT LF RR TT FQ _ _ n A.r.length m y row.length ⟨hlo,hnn⟩ hm5 hrkl hyl e4 q1 q2 q3 pLF u0 t0 v0 w0 (ab_ row) (hTO y row e1) hpk _ q (List.getElem?_eq_some_iff.1 e2).1 (an_ e2) (by omega) (hTTp q (by omega)) _ hG w1).mono ?_
   rintro e s' ⟨rfl,hsub⟩
   exact⟨y+1,by omega,by omega,hsub⟩
  ·obtain⟨row,e1⟩:∃ row,A.to[y]?=some row:=⟨A.to[y]'(by omega),by simp⟩
   have htl:(a3_ m (qT A (af_ A)) y ((1:Nat):Int)).length=m:=by simp [a3_,ba_]
   have htab:((a3_ m (qT A (af_ A)) y ((1:Nat):Int)).map fun x=>D.flat (.int .i64 x))=(List.range m).map fun p=>D.flat (.int .i64 (qT A (af_ A) y (digs m 1 p))):=by simp [a3_,ba_,List.map_map,Function.comp_def]
   rw [htl,htab] at hs
   have hG:=hs.symm
   refine (aem (by rfl) LR LB LT LF RR TT FQ _ _ n A.r.length m y row.length ⟨hlo,hnn⟩ hm5 hrkl hyl (hfew.l row (List.mem_of_getElem? e1)) q1 q2 q3 pLF u0 t0 v0 w0 (ab_ row) (hTO y row e1) hpk (fun p=>qT A (af_ A) y (digs m 1 p)) (fun P hP=>?_) _ hG w1).mono ?_
   ·    obtain⟨t,ht,htn⟩:=hRf P hP
        obtain⟨row',q,d1,d2,d3,d4,d5⟩:=c1 y hx P t ht
        rw [e1] at d1
        cases d1
        exact⟨t,q,hRp P _ ht,(List.getElem?_eq_some_iff.1 d2).1,an_ d2,by omega,by rw [← d5];exact hTTp q (by omega)⟩
   ·    rintro e s' ⟨rfl,hsub⟩
        exact⟨y+1,by omega,by omega,hsub⟩
  ·obtain⟨row,e1⟩:∃ row,A.to[y]?=some row:=⟨A.to[y]'(by omega),by simp⟩
   have hw2:ba_ ((2:Nat):Int) m=m*m:=by simp [ba_,Nat.pow_two]
   have htl:(a3_ m (qT A (af_ A)) y ((2:Nat):Int)).length=m*m:=by simp only [a3_,List.length_map,List.length_range,hw2]
   have  htab:((a3_ m (qT A (af_ A)) y ((2:Nat):Int)).map fun x=>D.flat (.int .i64 x))=(List.range (m*m)).map fun p=>D.flat (.int .i64 (qT A (af_ A) y (digs m 2 p))):=by
        unfold a3_
        rw [hw2,List.map_map];rfl
   rw [htl,htab] at hs
   have hG:=hs.symm
   refine (aej (by rfl) LR LB LT LF RR TT FQ _ _ n A.r.length m y row.length ⟨hlo,hnn⟩ hm5 hrkl hyl (hfew.l row (List.mem_of_getElem? e1)) q1 q2 q3 pLF u0 t0 v0 w0 (ab_ row) (hTO y row e1) hpk (fun p=>qT A (af_ A) y (digs m 2 p)) (fun w hw=>?_) (fun w u t t' hw hu ht ht'=>?_) _ hG w1).mono ?_
   ·    obtain⟨t,ht,htn⟩:=hRf w hw
        refine⟨t,hRp w _ ht,?_,htn⟩
        have h2:((t*n:Nat):Int)≤((512*512:Nat):Int):=Int.ofNat_le.2 (Nat.mul_le_mul (by omega) hnn)
        rw [Int.natCast_mul] at h2
        omega
   ·    obtain⟨tw,htw,_⟩:=hRf w hw
        obtain⟨tu,htu,_⟩:=hRf u hu
        have z1:=hRp w _ htw
        rw [ht] at z1
        have z2:=hRp u _ htu
        rw [ht'] at z2
        simp only [Option.some.injEq,D.flat.injEq,Value.int.injEq,true_and] at z1 z2
        have z1:t=tw:=by omega
        have z2:t'=tu:=by omega
        subst z1;subst z2
        obtain⟨row',q,d1,d2,d3,d4,d5⟩:=c2 y hx w u t t' htw htu
        rw [e1] at d1
        cases d1
        exact⟨q,(List.getElem?_eq_some_iff.1 d2).1,an_ d2,by omega,by rw [← d5];exact hTTp q (by omega)⟩
   ·    rintro e s' ⟨rfl,hsub⟩
        exact⟨y+1,by omega,by omega,hsub⟩
 ·obtain rfl:A.r.length=y:=by omega
  rw [etk]
  have w0:=hpRr (ap_ m (qT A (af_ A)) A.r)
  generalize aj_ (ap_ m (qT A (af_ A)) A.r)=TB at*
  clear hsn hRf c0 c1 c2 hRK hTO hTTp hRp hrk
  refine DW.walkTo 48 ?_
  refine DW.sub (s':=⟨[(2,.ref 2 0),(8,.own 38 n),(16,.ref 16 0)],[(2,some (.box [.flat (.slice none 0 0),.flat (.slice none 0 0),.flat (.slice none 0 0)])),(38,some (.row 3 1 n TT)),(16,some (.box [.sl false 1 A.r.length LR,.sl false 1 m FQ,.sl false 1 A.r.length TB]))]⟩) Sub.auto ?_
  refine DW.walk ?_
  exact⟨.inr rfl,ResL.ptrTmp (f':=[(2,.ptr [.sl false 1 A.r.length LR,.sl false 1 m FQ,.sl false 1 A.r.length TB] 0),(3,.own 38 n)]) rfl EsOk.auto (FsOk.cons (Vs.shutRef' rfl rfl rfl rfl (by simp only [persL,pers,q1,v0,w0,Bool.and_self]) rfl) (FsOk.cons (Vs.own' rfl rfl rfl rfl) trivial)) rfl rfl TyI.ag TyI.sz⟩
end Go.Proofs.Ytichhfbkhnimmaa
