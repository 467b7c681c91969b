/- The least automaton of the reference: its renumbering. No condition. -/
import Derived.Test.YtichhfbkhnimmaaYLY0
set_option linter.unusedSimpArgs false
set_option linter.unusedVariables false
set_option maxHeartbeats 4000000
set_option maxRecDepth 8000
namespace Go.Proofs.Ytichhfbkhnimmaa
open Go Go.RowKit Go.PP Go.Dm Go.Rt Go.Mn
theorem x3_ {cc:Code} (hsel:selC [1,1,1,1,1,1,1,1,1] d3_=some cc) (A:Au) (hk:chk A=0):DW Try.prog 269 cc ⟨[(1,.ref 1 0),(2,.ref 2 0),(6,.sl false 1 (stA A).length ((stA A).map fun x=>D.flat (.int .i64 x))),(7,.sl false 1 A.f.length (mrow (plI A (ac_ A).length) A.f.length 0)),(11,.ref 11 0)],[(1,some (.box [.sl false 1 A.r.length (A.r.map fun x=>D.flat (.int .i64 x)),.sl false 1 A.f.length (A.f.map fun x=>D.flat (.bool x)),.sl false 1 A.r.length (ag_ A.to)])),(2,some (.box [.flat (.slice none 0 0),.flat (.slice none 0 0),.flat (.slice none 0 0)])),(11,some (.box [.sl false 1 A.r.length (A.r.map fun x=>D.flat (.int .i64 x)),.sl false 1 (stA A).length (((List.range (stA A).length).map (qF A (stA A))).map fun x=>D.flat (.bool x)),.sl false 1 A.r.length (ag_ (aj_ (stA A).length (qT A (stA A)) A.r))]))]⟩ (fun e s=>(e= .normal∨e= .ret)∧ResOk Try.prog Try.f26 s (.tup [auD (aq_ A),.sl false 1 A.f.length (((List.range A.f.length).map (a3_ A)).map fun x=>D.flat (.int .i64 x))])):=by
 have hok:=a4_ hk
 have hs:=ce_ A
 rw [show bt_ A [] (ac_ A)=stA A from rfl] at hs
 have hnn:=hok.hi
 have hm5:(stA A).length≤512:=Nat.le_trans (hs.len hok) hnn
 have hqok:=f3_ hk hs
 have hql:(quoA A (stA A)).f.length=(stA A).length:=e1_
 have hpm:=hc_ hk hs
 have hfd:=ir_ (quoA A (stA A)) hqok
 have hwb:=ku_ hpm
 have htu:=um_ (quoA A (stA A)) hqok (cq_ (quoA A (stA A)).f.length (ac_ (quoA A (stA A)))) hwb.1
 have htr:=r7_ hk hs
 rw [pi_ hwb.1] at htr
 have htr:=congrArg Prod.fst htr
 simp only at htr
 rw [htr,← nu_ hk hs] at htu
 have hto:∀ p:Nat,p<A.f.length→(p:Int) ∉ ac_ A→a3_ A p= -1:=fun p _ h=>by
  rw [i7_ hk hs,toR,if_neg h]
 have hty:∀ p:Nat,(p:Int)∈ac_ A→a3_ A p=hasI (ac_ (quoA A (stA A))) ((idxC A (stA A) (p:Int):Nat):Int)∧idxC A (stA A) (p:Int)<(stA A).length:=fun p h=>by
  rw [i7_ hk hs,toR,if_pos h]
  exact⟨rfl,ex_ hs h⟩
 rw [hql] at hpm htu hwb
 have hwl:(cq_ (stA A).length (ac_ (quoA A (stA A)))).length=(stA A).length:=by simp [cq_]
 rw [hwl] at htu
 generalize hO:ac_ (quoA A (stA A))=O at*
 have hOl:O.length=(stA A).length:=hpm.len
 have hOx:∀ i,i<O.length→ ∃ x:Nat,O[i]?=some (x:Int)∧x<(stA A).length:=fun i h=>by
  have h1:=hpm.rng O[i] (List.getElem_mem h)
  obtain⟨x,hx⟩:=Int.eq_ofNat_of_zero_le h1.1
  exact⟨x,by rw [List.getElem?_eq_getElem h,hx],by omega⟩
 have hnx:=fun (i x:Nat) (h:O[i]?=some (x:Int))=>yq_ hpm.nd h (stA A).length
 have hwall:=aa2 hpm
 have hset:=fun (M:Nat→Nat→Int) (x:Nat) (v:Int) (h:x<(stA A).length)=>a8_ M (n:=(stA A).length) (p:=0) (q:=x) v h
 have hwp:∀ s,s<(stA A).length→partD false 1 (s*1) ((cq_ (stA A).length O).map fun x=>D.flat (.int .i64 x))=some (.flat (.int .i64 (hasI O (s:Int)))):=fun s h=>as_ (by simp [cq_,h])
 have hpp:∀ p,p<A.f.length→partD false 1 (p*1) (mrow (plI A (ac_ A).length) A.f.length 0)=some (.flat (.int .i64 (pF A p))):=fun p h=>bg_ h
 have hpy:=fun p h=>wx_ (A:=A) (q:=p) h
 have hpn:=fun p h=>afb (A:=A) (q:=p) h
 have hsn:∀ p:Nat,(((List.range p).map (a3_ A)).map fun x=>D.flat (.int .i64 x))++ [.flat (.int .i64 (a3_ A p))]=(((List.range (p+1)).map (a3_ A)).map fun x=>D.flat (.int .i64 x)):=fun p=>by rw [List.range_succ];simp
 have hpT:=fun p=>ad_ ((List.range p).map (a3_ A))
 have hpO:=fun i (x:Int) (h:O[i]?=some x)=>as_ h
 have q1:=ad_ A.r
 have q2:=ai_ A.f
 have q3:=al_ A.to
 have q4:=ad_ O
 have q5:=ad_ (cq_ (stA A).length O)
 have t0:=aa_ (plI A (ac_ A).length) A.f.length 0
 have v0:=ai_ ((List.range (stA A).length).map (qF A (stA A)))
 have w0:=al_ (aj_ (stA A).length (qT A (stA A)) A.r)
 have pM:=fun M:Nat→Nat→Int=>aa_ M (stA A).length 0
 have lM:=fun M:Nat→Nat→Int=>a6_ M (stA A).length 0
 have hwz:=xi_ O (stA A).length
 rw [yw_] at hfd htu
 have k1:=ad_ (aq_ A).r
 have k2:=ai_ (aq_ A).f
 have k3:=al_ (aq_ A).to
 rw [au_ (aq_ A)] at htu ⊢
 generalize (aq_ A).to.length=kt at*
 generalize (aq_ A).f.length=kb at*
 generalize (aq_ A).r.length=kr at*
 generalize ag_ (aq_ A).to=KT at*
 generalize ((aq_ A).r.map fun x=>D.flat (.int .i64 x))=KR at*
 generalize ((aq_ A).f.map fun x=>D.flat (.bool x))=KB at*
 have hfm:∀ p:Nat,(p:Int)∈ac_ A∨(p:Int) ∉ ac_ A:=fun p=>Classical.em _
 generalize ac_ A=FA at*
 generalize mrow (plI A FA.length) A.f.length 0=TT at*
 clear htr hs hqok hql hk hok hO hwb
 generalize hWL:((cq_ (stA A).length O).map fun x=>D.flat (.int .i64 x))=WL at*
 generalize (((List.range (stA A).length).map (qF A (stA A))).map fun x=>D.flat (.bool x))=FQ at*
 generalize ag_ (aj_ (stA A).length (qT A (stA A)) A.r)=TQ at*
 generalize (A.r.map fun x=>D.flat (.int .i64 x))=LR at*
 generalize (A.f.map fun x=>D.flat (.bool x))=LB at*
 generalize ag_ A.to=LT at*
 generalize hOU:(O.map fun x=>D.flat (.int .i64 x))=OU at*
 generalize A.r.length=nR at*
 generalize A.f.length=n at*
 generalize idxC A (stA A)=IX at*
 generalize (stA A).length=m at*
 generalize a3_ A=TO at*
 generalize pF A=PF at*
 rw [hOl] at hfd hOx hwall
 generalize ((stA A).map fun x=>D.flat (.int .i64 x))=RR at*
 refine DW.sel hsel (by rfl) ?_
 refine DW.walk ?_
 rw [hwz]
 refine DW.loopA (fun i:Nat=>⟨[(1,.ref 1 0),(2,.ref 2 0),(6,.sl false 1 m RR),(7,.sl false 1 n TT),(11,.ref 11 0),(18,.sl false 1 m OU),(19,.own 222 m),(20,.flat (.int .i64 ((i:Nat):Int)))],[(1,some (.box [.sl false 1 nR LR,.sl false 1 n LB,.sl false 1 nR LT])),(2,some (.box [.flat (.slice none 0 0),.flat (.slice none 0 0),.flat (.slice none 0 0)])),(11,some (.box [.sl false 1 nR LR,.sl false 1 m FQ,.sl false 1 nR TQ])),(222,some (.row 3 1 m (mrow (whI O i) m 0)))]⟩) (fun i=>i≤m) (fun i=>m - i) 0 ?_ (Nat.zero_le _)
 intro i hi
 rcases Nat.lt_or_ge i m with hlt|hge
 ·obtain⟨x,hx,hxm⟩:=hOx i hlt
  have hp:=hpO i _ hx
  have hs1:=hset (whI O i) x (i:Int) hxm
  rw [hnx i x hx] at hs1
  have p0:=pM (whI O i)
  have p1:=pM (whI O (i+1))
  have l0:=lM (whI O i)
  clear hOx hpO hset hnx pM lM hwp hpp hpy hpn hsn hpT hty hto htu hfd hwz hwall hfm
  generalize hM1:mrow (whI O (i+1)) m 0=M1 at*
  generalize mrow (whI O i) m 0=M0 at*
  refine DW.walk ?_
  rw [hs1]
  exact⟨i+1,by omega,by omega,by rw [hM1];exact Sub.auto⟩
 ·obtain rfl:m=i:=by omega
  rw [hwall]
  clear hOx hpO hset hnx pM lM hwz hwall hfd
  refine DW.walkTo 51 ?_
  refine DW.sub (s':=⟨[(1,.ref 1 0),(2,.ref 2 0),(6,.sl false 1 m RR),(7,.sl false 1 n TT),(11,.ref 11 0),(19,.sl false 1 m WL)],[(1,some (.box [.sl false 1 nR LR,.sl false 1 n LB,.sl false 1 nR LT])),(2,some (.box [.flat (.slice none 0 0),.flat (.slice none 0 0),.flat (.slice none 0 0)])),(11,some (.box [.sl false 1 nR LR,.sl false 1 m FQ,.sl false 1 nR TQ]))]⟩) Sub.auto ?_
  refine DW.walkTo 53 ?_
  refine DW.adopt 23 901 3 1 rfl rfl ?_
  refine DW.sub (s':=⟨[(1,.ref 1 0),(2,.ref 2 0),(7,.sl false 1 n TT),(19,.sl false 1 m WL),(21,.ref 21 0),(23,.own 901 0)],[(1,some (.box [.sl false 1 nR LR,.sl false 1 n LB,.sl false 1 nR LT])),(2,some (.box [.flat (.slice none 0 0),.flat (.slice none 0 0),.flat (.slice none 0 0)])),(21,some (.box [.sl false 1 kr KR,.sl false 1 kb KB,.sl false 1 kt KT])),(901,some (.row 3 1 0 []))]⟩) Sub.auto ?_
  refine DW.walk ?_
  refine DW.loopA (fun p:Nat=>⟨[(1,.ref 1 0),(2,.ref 2 0),(7,.sl false 1 n TT),(19,.sl false 1 m WL),(21,.ref 21 0),(23,.own 901 p),(24,.flat (.int .i64 ((p:Nat):Int)))],[(1,some (.box [.sl false 1 nR LR,.sl false 1 n LB,.sl false 1 nR LT])),(2,some (.box [.flat (.slice none 0 0),.flat (.slice none 0 0),.flat (.slice none 0 0)])),(21,some (.box [.sl false 1 kr KR,.sl false 1 kb KB,.sl false 1 kt KT])),(901,some (.row 3 1 p (((List.range p).map TO).map fun x=>D.flat (.int .i64 x))))]⟩) (fun p=>p≤n) (fun p=>n - p) 0 ?_ (Nat.zero_le _)
  intro p hp
  rcases Nat.lt_or_ge p n with hlt|hge2
  ·have  hs1:=hsn p
   have h1:=hpp p hlt
   have y0:=hpT p
   have y1:=hpT (p+1)
   rcases hfm p with hf|hf
   ·    obtain⟨e1,e2⟩:=hty p hf
        rw [hpy p hf] at h1
        have h2:=hwp (IX (p:Int)) e2
        rw [← e1] at h2
        clear hpp hpy hpn hwp hsn hpT hty hto htu hfm e1
        generalize hX1:(((List.range (p+1)).map TO).map fun x=>D.flat (.int .i64 x))=X1 at*
        generalize (((List.range p).map TO).map fun x=>D.flat (.int .i64 x))=X0 at*
        generalize IX (p:Int)=ix at*
        generalize TO p=v at*
        refine DW.walk ?_
        rw [hs1]
        exact⟨p+1,by omega,by omega,by rw [hX1];exact Sub.auto⟩
   ·    have e1:=hto p hlt hf
        rw [hpn p hf] at h1
        rw [e1] at hs1
        clear hpp hpy hpn hwp hsn hpT hty hto htu hfm e1
        generalize hX1:(((List.range (p+1)).map TO).map fun x=>D.flat (.int .i64 x))=X1 at*
        generalize (((List.range p).map TO).map fun x=>D.flat (.int .i64 x))=X0 at*
        refine DW.walk ?_
        rw [hs1]
        exact⟨p+1,by omega,by omega,by rw [hX1];exact Sub.auto⟩
  ·obtain rfl:n=p:=by omega
   have y0:=hpT n
   clear hpp hpy hpn hwp hsn hpT hty hto htu hfm
   generalize (((List.range n).map TO).map fun x=>D.flat (.int .i64 x))=X0 at*
   refine DW.walk ?_
   exact⟨.inr rfl,ResOk.cellTmpA [(901,some (.row 3 1 n X0))] rfl rfl rfl TyI.ag TyI.sz rfl ⟨rfl,trivial⟩ (VwL.pers (by simp [persL,pers,k1,k2,k3])) (Le.refl _) (Vw.own (.head _) (VwL.pers y0))⟩
theorem y1_ {cc:Code} (hsel:selC [1,1,1,1,1,1,1,1] d3_=some cc) (A:Au) (hk:chk A=0):DW Try.prog 269 cc ⟨[(1,.ref 1 0),(2,.ref 2 0),(6,.sl false 1 (stA A).length ((stA A).map fun x=>D.flat (.int .i64 x))),(7,.sl false 1 A.f.length (mrow (plI A (ac_ A).length) A.f.length 0)),(11,.ref 11 0)],[(1,some (.box [.sl false 1 A.r.length (A.r.map fun x=>D.flat (.int .i64 x)),.sl false 1 A.f.length (A.f.map fun x=>D.flat (.bool x)),.sl false 1 A.r.length (ag_ A.to)])),(2,some (.box [.flat (.slice none 0 0),.flat (.slice none 0 0),.flat (.slice none 0 0)])),(11,some (.box [.sl false 1 A.r.length (A.r.map fun x=>D.flat (.int .i64 x)),.own 111 (stA A).length,.own 112 0])),(111,some (.row 4 1 (stA A).length (((List.range (stA A).length).map (qF A (stA A))).map fun x=>D.flat (.bool x)))),(112,some (.row 22 1 0 []))]⟩ (fun e s=>(e= .normal∨e= .ret)∧ResOk Try.prog Try.f26 s (.tup [auD (aq_ A),.sl false 1 A.f.length (((List.range A.f.length).map (a3_ A)).map fun x=>D.flat (.int .i64 x))])):=by
 have hsy:=fun (cc:Code) (h:selC [1,1,1,1,1,1,1,1,0,1,2,2] d3_=some cc)=>z6_ h A hk
 have hT:=fun (cc:Code) (h:selC [1,1,1,1,1,1,1,1,1] d3_=some cc)=>x3_ h A hk
 have hrl:=(a4_ hk).alpha.hi
 have q1:=ad_ A.r
 have q2:=ai_ A.f
 have q3:=al_ A.to
 have q4:=ad_ (stA A)
 have t0:=aa_ (plI A (ac_ A).length) A.f.length 0
 have v0:=ai_ ((List.range (stA A).length).map (qF A (stA A)))
 have wT:=al_ (aj_ (stA A).length (qT A (stA A)) A.r)
 have e0:(ag_ ((aj_ (stA A).length (qT A (stA A)) A.r).take 0))=[]:=rfl
 have eN:(ag_ ((aj_ (stA A).length (qT A (stA A)) A.r).take A.r.length))=ag_ (aj_ (stA A).length (qT A (stA A)) A.r):=by rw [List.take_of_length_le (by simp [aj_])]
 generalize mrow (plI A (ac_ A).length) A.f.length 0=TT at*
 generalize (((List.range (stA A).length).map (qF A (stA A))).map fun x=>D.flat (.bool x))=FQ at*
 generalize ((stA A).map fun x=>D.flat (.int .i64 x))=RR at*
 generalize (A.r.map fun x=>D.flat (.int .i64 x))=LR at*
 generalize (A.f.map fun x=>D.flat (.bool x))=LB at*
 generalize ag_ A.to=LT at*
 generalize (stA A).length=m at*
 generalize A.f.length=n at*
 generalize hnR:A.r.length=nR at*
 refine DW.sel hsel (by rfl) ?_
 refine DW.seq ?_
 refine DW.cut ⟨[(1,.ref 1 0),(2,.ref 2 0),(6,.sl false 1 m RR),(7,.sl false 1 n TT),(11,.ref 11 0)],[(1,some (.box [.sl false 1 nR LR,.sl false 1 n LB,.sl false 1 nR LT])),(2,some (.box [.flat (.slice none 0 0),.flat (.slice none 0 0),.flat (.slice none 0 0)])),(11,some (.box [.sl false 1 nR LR,.sl false 1 m FQ,.sl false 1 nR (ag_ (aj_ m (qT A (stA A)) A.r))]))]⟩ ?_ (hT _ (by rfl))
 refine DW.walk ?_
 refine DW.loopA (fun y:Nat=>⟨[(1,.ref 1 0),(2,.ref 2 0),(6,.sl false 1 m RR),(7,.sl false 1 n TT),(11,.ref 11 0),(13,.flat (.int .i64 ((y:Nat):Int)))],[(1,some (.box [.sl false 1 nR LR,.sl false 1 n LB,.sl false 1 nR LT])),(2,some (.box [.flat (.slice none 0 0),.flat (.slice none 0 0),.flat (.slice none 0 0)])),(11,some (.box [.sl false 1 nR LR,.own 111 m,.own 112 y])),(111,some (.row 4 1 m FQ)),(112,some (.row 22 1 y (ag_ ((aj_ m (qT A (stA A)) A.r).take y))))]⟩) (fun y=>y≤nR) (fun y=>nR - y) 0 ?_ (Nat.zero_le _)
 intro y hy
 rcases Nat.lt_or_ge y nR with hlt|hge
 ·refine (hsy _ (by rfl) y hlt).mono ?_
  rintro e s' ⟨rfl,hsub⟩
  exact⟨y+1,by omega,by omega,hsub⟩
 ·obtain rfl:nR=y:=by omega
  rw [eN]
  clear hsy hT e0 eN
  generalize ag_ (aj_ m (qT A (stA A)) A.r)=TQ at*
  refine DW.walk ?_
  exact Nm.mk Sub.auto
theorem abi {cc:Code} (hsel:selC [1,1,1,1,1,1] d3_=some cc) (A:Au) (hk:chk A=0):DW Try.prog 269 cc ⟨[(1,.ref 1 0),(2,.ref 2 0),(6,.sl false 1 (stA A).length ((stA A).map fun x=>D.flat (.int .i64 x))),(7,.sl false 1 A.f.length (mrow (plI A (ac_ A).length) A.f.length 0))],[(1,some (.box [.sl false 1 A.r.length (A.r.map fun x=>D.flat (.int .i64 x)),.sl false 1 A.f.length (A.f.map fun x=>D.flat (.bool x)),.sl false 1 A.r.length (ag_ A.to)])),(2,some (.box [.flat (.slice none 0 0),.flat (.slice none 0 0),.flat (.slice none 0 0)]))]⟩ (fun e s=>(e= .normal∨e= .ret)∧ResOk Try.prog Try.f26 s (.tup [auD (aq_ A),.sl false 1 A.f.length (((List.range A.f.length).map (a3_ A)).map fun x=>D.flat (.int .i64 x))])):=by
 have hT:=fun (cc:Code) (h:selC [1,1,1,1,1,1,1,1] d3_=some cc)=>y1_ h A hk
 have hok:=a4_ hk
 have hnn:=hok.hi
 have hm5:(stA A).length≤512:=Nat.le_trans ((ce_ A).len hok) hnn
 have q1:=ad_ A.r
 have q2:=ai_ A.f
 have q3:=al_ A.to
 have q4:=ad_ (stA A)
 have t0:=aa_ (plI A (ac_ A).length) A.f.length 0
 have v0:=fun k=>ai_ ((List.range k).map (qF A (stA A)))
 have hst:∀ k,k<(stA A).length→ ∃ t:Nat,partD false 1 (k*1) ((stA A).map fun x=>D.flat (.int .i64 x))=some (.flat (.int .i64 ((t:Nat):Int)))∧t<A.f.length∧partD false 1 (t*1) (A.f.map fun x=>D.flat (.bool x))=some (.flat (.bool (qF A (stA A) k))):=fun k h=>by
  have hx:(stA A)[k]?=some (stA A)[k]:=List.getElem?_eq_getElem h
  obtain⟨x0,x1⟩:=av_ hok (p4_ (List.mem_of_getElem? hx))
  obtain⟨t,ht⟩:=Int.eq_ofNat_of_zero_le x0
  have htn:t<A.f.length:=by omega
  refine⟨t,as_ (by rw [hx,ht]),htn,dy_ ?_⟩
  unfold qF finI
  rw [List.getD_eq_getElem?_getD (l:=stA A),hx,Option.getD_some,ht,Int.toNat_natCast,List.getD_eq_getElem?_getD,List.getElem?_eq_getElem htn];rfl
 have hsn:∀ k,(((List.range k).map (qF A (stA A))).map fun x=>D.flat (.bool x))++ [.flat (.bool (qF A (stA A) k))]=(((List.range (k+1)).map (qF A (stA A))).map fun x=>D.flat (.bool x)):=fun k=>by rw [List.range_succ];simp
 generalize mrow (plI A (ac_ A).length) A.f.length 0=TT at*
 generalize ((stA A).map fun x=>D.flat (.int .i64 x))=RR at*
 generalize (A.r.map fun x=>D.flat (.int .i64 x))=LR at*
 generalize (A.f.map fun x=>D.flat (.bool x))=LB at*
 generalize ag_ A.to=LT at*
 generalize (stA A).length=m at*
 generalize A.f.length=n at*
 generalize A.r.length=nR at*
 generalize qF A (stA A)=QF at*
 clear hok
 refine DW.sel hsel (by rfl) ?_
 refine DW.seq ?_
 refine DW.cut ⟨[(1,.ref 1 0),(2,.ref 2 0),(6,.sl false 1 m RR),(7,.sl false 1 n TT),(11,.ref 11 0)],[(1,some (.box [.sl false 1 nR LR,.sl false 1 n LB,.sl false 1 nR LT])),(2,some (.box [.flat (.slice none 0 0),.flat (.slice none 0 0),.flat (.slice none 0 0)])),(11,some (.box [.sl false 1 nR LR,.flat (.slice none 0 0),.flat (.slice none 0 0)]))]⟩ ?_ ?_
 ·refine DW.walk ?_
  exact Nm.mk Sub.auto
 ·refine DW.seq ?_
  refine DW.cut _ ?_ (hT _ (by rfl))
  refine DW.adoptBox 11 1 111 4 1 rfl rfl rfl ?_
  refine DW.adoptBox 11 2 112 22 1 rfl rfl rfl ?_
  refine DW.walk ?_
  refine DW.loopA (fun k:Nat=>⟨[(1,.ref 1 0),(2,.ref 2 0),(6,.sl false 1 m RR),(7,.sl false 1 n TT),(11,.ref 11 0),(12,.flat (.int .i64 ((k:Nat):Int)))],[(1,some (.box [.sl false 1 nR LR,.sl false 1 n LB,.sl false 1 nR LT])),(2,some (.box [.flat (.slice none 0 0),.flat (.slice none 0 0),.flat (.slice none 0 0)])),(11,some (.box [.sl false 1 nR LR,.own 111 k,.own 112 0])),(111,some (.row 4 1 k (((List.range k).map QF).map fun x=>D.flat (.bool x)))),(112,some (.row 22 1 0 []))]⟩) (fun k=>k≤m) (fun k=>m - k) 0 ?_ (Nat.zero_le _)
  intro k hk2
  rcases Nat.lt_or_ge k m with hlt|hge
  ·obtain⟨t,h1,h2,h3⟩:=hst k hlt
   have hs1:=hsn k
   have y0:=v0 k
   have y1:=v0 (k+1)
   clear hst hsn v0 hT
   generalize hX1:(((List.range (k+1)).map QF).map fun x=>D.flat (.bool x))=X1 at*
   generalize (((List.range k).map QF).map fun x=>D.flat (.bool x))=X0 at*
   generalize QF k=b at*
   refine DW.walk ?_
   rw [hs1]
   exact⟨k+1,by omega,by omega,by rw [hX1];exact Sub.auto⟩
  ·obtain rfl:m=k:=by omega
   have y0:=v0 m
   clear hst hsn v0 hT
   generalize (((List.range m).map QF).map fun x=>D.flat (.bool x))=X0 at*
   refine DW.walk ?_
   exact Nm.mk Sub.auto
theorem wd_ (A:Au) (hk:chk A=0) (hf:DFun Try.prog 51 [auD A] (.sl false 1 A.f.length (farD A))):DFun Try.prog 26 [auD A] (.tup [auD (aq_ A),.sl false 1 A.f.length (((List.range A.f.length).map (a3_ A)).map fun x=>D.flat (.int .i64 x))]):=by
 have hok:=a4_ hk
 have hT:=fun (cc:Code) (h:selC [1,1,1,1,1,1] d3_=some cc)=>abi h A hk
 have hB:=fun (cc:Code) (h:selC [1,1,1,1,1,0,1,2,2] d3_=some cc)=>yt_ h A hok
 have hfo:=ir_ A hok
 have hcl:=zw_ A hok hf
 have hnn:=hok.hi
 have hTl:A.to.length=A.r.length:=hok.len
 have hm5:(stA A).length≤512:=Nat.le_trans ((ce_ A).len hok) hnn
 have hst0:stI A 0=[]:=rfl
 have hstN:=xq_ A
 have q1:=ad_ A.r
 have q2:=ai_ A.f
 have q3:=al_ A.to
 have q4:=ad_ (ac_ A)
 have q5:=ad_ (clsU A)
 have q6:=ad_ (stA A)
 have pM:=fun M:Nat→Nat→Int=>aa_ M A.f.length 0
 have lM:=fun M:Nat→Nat→Int=>a6_ M A.f.length 0
 have hset:=fun (M:Nat→Nat→Int) (x:Nat) (v:Int) (h:x<A.f.length)=>a8_ M (n:=A.f.length) (p:=0) (q:=x) v h
 have hnz:=vs_ A.f.length
 have hnx:=fun k (h:k<A.f.length)=>v2_ k A.f.length h
 have hna:=x2_ A A.f.length
 have hfl:(ac_ A).length≤512:=by
  have:=b9_ _ _ (gn_ hok) (fun s h=>av_ hok h)
  omega
 rw [au_ A] at hfo hcl ⊢
 simp only [hTl] at hB hfo hcl ⊢
 clear hf hok hTl
 generalize (A.r.map fun x=>D.flat (.int .i64 x))=LR at*
 generalize (A.f.map fun x=>D.flat (.bool x))=LB at*
 generalize ag_ A.to=LT at*
 generalize hFU:((ac_ A).map fun x=>D.flat (.int .i64 x))=FU at*
 generalize hCU:((clsU A).map fun x=>D.flat (.int .i64 x))=CU at*
 generalize A.r.length=nR at*
 generalize A.f.length=n at*
 generalize hfle:(ac_ A).length=fl at*
 refine DFun.enterA Try.func26 Try.ntmps26 ?_
 refine DW.walkTo 3 ?_
 refine DW.adopt 6 601 3 1 rfl rfl ?_
 refine DW.walk ?_
 rw [hnz]
 refine DW.loopA (fun p:Nat=>⟨[(1,.ref 1 0),(2,.ref 2 0),(4,.sl false 1 fl FU),(5,.sl false 1 n CU),(6,.own 601 0),(7,.own 32 n),(8,.flat (.int .i64 ((p:Nat):Int)))],[(1,some (.box [.sl false 1 nR LR,.sl false 1 n LB,.sl false 1 nR LT])),(2,some (.box [.flat (.slice none 0 0),.flat (.slice none 0 0),.flat (.slice none 0 0)])),(601,some (.row 3 1 0 [])),(32,some (.row 3 1 n (mrow (neg1 p) n 0)))]⟩) (fun p=>p≤n) (fun p=>n - p) 0 ?_ (Nat.zero_le _)
 intro p hp
 rcases Nat.lt_or_ge p n with hlt|hge
 ·have hs1:=hset (neg1 p) p (-1) hlt
  rw [hnx p hlt] at hs1
  have p0:=pM (neg1 p)
  have l0:=lM (neg1 p)
  have p1:=pM (neg1 (p+1))
  clear hset pM lM hT hB hnx hna hnz hfo hcl
  generalize hM1:mrow (neg1 (p+1)) n 0=M1 at*
  generalize mrow (neg1 p) n 0=M0 at*
  refine DW.walk ?_
  rw [hs1]
  exact⟨p+1,by omega,by omega,by rw [hM1];exact Sub.auto⟩
 ·obtain rfl:n=p:=by omega
  rw [hna]
  have p0:=pM (plI A 0)
  have p1:=pM (plI A fl)
  clear hset lM hnx hna hnz hfo hcl
  refine DW.walkTo 8 ?_
  refine DW.cut2 _ ?_ (hT _ (by rfl))
  refine DW.walk ?_
  refine DW.loopA (fun i:Nat=>⟨[(1,.ref 1 0),(2,.ref 2 0),(4,.sl false 1 fl FU),(5,.sl false 1 n CU),(6,.own 601 (stI A i).length),(7,.own 32 n),(9,.flat (.int .i64 ((i:Nat):Int)))],[(1,some (.box [.sl false 1 nR LR,.sl false 1 n LB,.sl false 1 nR LT])),(2,some (.box [.flat (.slice none 0 0),.flat (.slice none 0 0),.flat (.slice none 0 0)])),(601,some (.row 3 1 (stI A i).length ((stI A i).map fun x=>D.flat (.int .i64 x)))),(32,some (.row 3 1 n (mrow (plI A i) n 0)))]⟩) (fun i=>i≤fl) (fun i=>fl - i) 0 ?_ (Nat.zero_le _)
  intro i hi
  rcases Nat.lt_or_ge i fl with hlt|hge2
  ·refine (hB _ (by rfl) i hlt).mono ?_
   rintro e s' ⟨rfl,hsub⟩
   exact⟨i+1,by omega,by omega,hsub⟩
  ·obtain rfl:fl=i:=by omega
   rw [hstN]
   clear hB pM hT
   generalize mrow (plI A fl) n 0=TT at*
   generalize ((stA A).map fun x=>D.flat (.int .i64 x))=RR at*
   generalize (stA A).length=m at*
   refine DW.walk ?_
   exact Nm.mk Sub.auto
theorem u7_ (A:Au) (hr:fewB A=false):DFun Try.prog 5 [auD A] (.flat (.bool true)):=by
 have hkn:=om_
 have hfa:=zg_ A
 rw [hr] at hfa
 have q1:=ad_ A.r
 have q2:=ai_ A.f
 have q3:=al_ A.to
 rw [au_ A] at hfa ⊢
 generalize (A.r.map fun x=>D.flat (.int .i64 x))=LR at*
 generalize (A.f.map fun x=>D.flat (.bool x))=LB at*
 generalize ag_ A.to=LT at*
 generalize A.r.length=lr at*
 generalize A.f.length=lb at*
 generalize A.to.length=lt at*
 refine DFun.enterA Try.func5 Try.ntmps5 ?_
 refine DW.walk ?_
 exact⟨.inr rfl,ResOk.one [] rfl rfl trivial (Vw.pers rfl)⟩
theorem ud_ (A:Au) (hr:fewB A=true) (hk:chk A≠0):DFun Try.prog 5 [auD A] (.flat (.bool true)):=by
 have hkn:=om_
 have hfa:=zg_ A
 rw [hr] at hfa
 have hfr:=w3_ A
 have hmi:=hl_ A (mj_ hr) hk
 have him:=s2_ A (mj_ hr) hk
 have hc:=qf_ A (mj_ hr)
 have hne:((chk A:Nat):Int)≠0:=by omega
 generalize chk A=ck at*
 have q1:=ad_ A.r
 have q2:=ai_ A.f
 have q3:=al_ A.to
 rw [au_ A] at hfa hfr hmi him hc ⊢
 generalize (A.r.map fun x=>D.flat (.int .i64 x))=LR at*
 generalize (A.f.map fun x=>D.flat (.bool x))=LB at*
 generalize ag_ A.to=LT at*
 generalize A.r.length=lr at*
 generalize A.f.length=lb at*
 generalize A.to.length=lt at*
 refine DFun.enterA Try.func5 Try.ntmps5 ?_
 refine DW.walk ?_
 exact⟨.inr rfl,ResOk.one [] rfl rfl trivial (Vw.pers rfl)⟩
theorem zk_ (A:Au) (hr:fewB A=true) (hk:chk A=0) (hf:DFun Try.prog 51 [auD A] (.sl false 1 A.f.length (farD A))):DFun Try.prog 5 [auD A] (.flat (.bool true)):=by
 have hok:=a4_ hk
 have hkn:=om_
 have hfa:=zg_ A
 rw [hr] at hfa
 have hfr:=w3_ A
 have hmi:=f6_ A hk
 have hc:=qf_ A (bs_ hok)
 rw [hk] at hc
 have hle:=wd_ A hk hf
 have hlc:=gs_ hk
 have hto:=afo (aq_ A)
 have hs1:=ps_ (aq_ A) (aq_ A) (bs_ (a4_ hlc)) (bs_ (a4_ hlc))
 have hs2:=ps_ A (aq_ A) (bs_ hok) (bs_ (a4_ hlc))
 have hi1:=pt_ A hk
 have hi2:=pt_ (aq_ A) hlc
 rw [oj_ hk] at hi2
 rw [uu_] at hs1 hi2
 have hn:=hok.hi
 have hsm:=acd ((List.range A.f.length).map (a3_ A)) ((List.range A.f.length).map (a3_ A)) (by simp;omega) (by simp;omega)
 rw [decide_eq_true rfl] at hsm
 have hTl:((List.range A.f.length).map (a3_ A)).length=A.f.length:=by simp
 rw [hTl] at hsm
 have y0:=ad_ ((List.range A.f.length).map (a3_ A))
 generalize (((List.range A.f.length).map (a3_ A)).map fun x=>D.flat (.int .i64 x))=TO at*
 generalize eqB A (aq_ A)=eb at*
 clear hf hk hok hlc hr hTl
 have q1:=ad_ A.r
 have q2:=ai_ A.f
 have q3:=al_ A.to
 rw [au_ A] at hfa hfr hmi hc hle hs2 hi1 ⊢
 generalize (A.r.map fun x=>D.flat (.int .i64 x))=LR at*
 generalize (A.f.map fun x=>D.flat (.bool x))=LB at*
 generalize ag_ A.to=LT at*
 generalize A.r.length=lr at*
 generalize A.f.length=lb at*
 generalize A.to.length=lt at*
 have k1:=ad_ (aq_ A).r
 have k2:=ai_ (aq_ A).f
 have k3:=al_ (aq_ A).to
 rw [au_ (aq_ A)] at hmi hle hto hs1 hs2 hi2
 generalize ((aq_ A).r.map fun x=>D.flat (.int .i64 x))=MR at*
 generalize ((aq_ A).f.map fun x=>D.flat (.bool x))=MB at*
 generalize ag_ (aq_ A).to=MT at*
 generalize (aq_ A).r.length=mr at*
 generalize (aq_ A).f.length=mb at*
 generalize (aq_ A).to.length=mt at*
 refine DFun.enterA Try.func5 Try.ntmps5 ?_
 cases eb
 all_goals
  refine DW.walk ?_
  exact⟨.inr rfl,ResOk.one [] rfl rfl trivial (Vw.pers rfl)⟩
theorem u6_ (A:Au):DFun Try.prog 5 [auD A] (.flat (.bool true)):=by
 cases hr:fewB A with
 |false=>exact u7_ A hr
 |true=>
  by_cases hk:chk A=0
  ·exact zk_ A hr hk (zl_ A (a4_ hk) (of_decide_eq_true hr).1)
  ·exact ud_ A hr hk
end Go.Proofs.Ytichhfbkhnimmaa
