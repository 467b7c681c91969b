/- The least automaton of the reference: one found state. No condition. -/
import Derived.Test.YtichhfbkhnimmaaYLW1
import Derived.Test.YtichhfbkhnimmaaYQT
set_option linter.unusedSimpArgs false
set_option linter.unusedVariables false
set_option maxHeartbeats 4000000
set_option maxRecDepth 8000
namespace Go.Proofs.Ytichhfbkhnimmaa
open Go Go.RowKit Go.PP Go.Dm Go.Rt Go.Mn
theorem m7_ {A:Au} {p:Nat} (h:p<A.f.length):partD false 1 (p*1) ((clsU A).map fun x=>D.flat (.int .i64 x))=some (.flat (.int .i64 (((clsA A p):Nat):Int))):=as_ (by simp [clsU,h])
theorem yt_ {cc:Code} (hsel:selC [1,1,1,1,1,0,1,2,2] d3_=some cc) (A:Au) (hok:AuOk A) (i:Nat) (hi:i<(ac_ A).length):
  DW Try.prog 269 cc ⟨[(1,.ref 1 0),(2,.ref 2 0),(4,.sl false 1 (ac_ A).length ((ac_ A).map fun x=>D.flat (.int .i64 x))),(5,.sl false 1 A.f.length ((clsU A).map fun x=>D.flat (.int .i64 x))),(6,.own 601 (stI A i).length),(7,.own 32 A.f.length),(9,.flat (.int .i64 ((i:Nat):Int)))],[(1,some (.box [.sl false 1 A.r.length (A.r.map fun x=>D.flat (.int .i64 x)),.sl false 1 A.f.length (A.f.map fun x=>D.flat (.bool x)),.sl false 1 A.to.length (ag_ A.to)])),(2,some (.box [.flat (.slice none 0 0),.flat (.slice none 0 0),.flat (.slice none 0 0)])),(601,some (.row 3 1 (stI A i).length ((stI A i).map fun x=>D.flat (.int .i64 x)))),(32,some (.row 3 1 A.f.length (mrow (plI A i) A.f.length 0)))]⟩ (Nm 269 ⟨[(1,.ref 1 0),(2,.ref 2 0),(4,.sl false 1 (ac_ A).length ((ac_ A).map fun x=>D.flat (.int .i64 x))),(5,.sl false 1 A.f.length ((clsU A).map fun x=>D.flat (.int .i64 x))),(6,.own 601 (stI A (i+1)).length),(7,.own 32 A.f.length),(9,.flat (.int .i64 (((i+1):Nat):Int)))],[(1,some (.box [.sl false 1 A.r.length (A.r.map fun x=>D.flat (.int .i64 x)),.sl false 1 A.f.length (A.f.map fun x=>D.flat (.bool x)),.sl false 1 A.to.length (ag_ A.to)])),(2,some (.box [.flat (.slice none 0 0),.flat (.slice none 0 0),.flat (.slice none 0 0)])),(601,some (.row 3 1 (stI A (i+1)).length ((stI A (i+1)).map fun x=>D.flat (.int .i64 x)))),(32,some (.row 3 1 A.f.length (mrow (plI A (i+1)) A.f.length 0)))]⟩):=by
 have hn:=hok.hi
 have hfi:=fun x (h:x∈ac_ A)=>av_ hok h
 have hfl:(ac_ A).length≤512:=by
  have:=b9_ _ _ (gn_ hok) (fun s h=>hfi s h)
  omega
 obtain⟨xi,hxi⟩:∃ x,(ac_ A)[i]?=some x:=⟨_,List.getElem?_eq_getElem hi⟩
 obtain⟨x0,x1⟩:=hfi xi (List.mem_of_getElem? hxi)
 obtain⟨x,rfl⟩:=Int.eq_ofNat_of_zero_le x0
 have hxn:x<A.f.length:=by omega
 have hst:∀ k,k<(stI A i).length→ ∃ y:Nat,(stI A i)[k]?=some (y:Int)∧y<A.f.length:=fun k h=>by
  have h1:(stI A i)[k]?=some (stI A i)[k]:=List.getElem?_eq_getElem h
  obtain⟨y0,y1⟩:=hfi _ (xy_ (List.mem_of_getElem? h1))
  obtain⟨y,hy⟩:=Int.eq_ofNat_of_zero_le y0
  exact⟨y,by rw [h1,hy],by omega⟩
 have hL:(stI A i).length≤512:=by
  have h1:=(n7_ A i).length_le
  have h2:=(ce_ A).len hok
  rw [show bt_ A [] (ac_ A)=stA A from rfl] at h2
  omega
 have hL2:(stI A (i+1)).length≤513:=by
  rw [lo_ hxi]
  split
  ·omega
  ·rw [List.length_append,List.length_singleton];omega
 have q1:=ad_ A.r
 have q2:=ai_ A.f
 have q3:=al_ A.to
 have q4:=ad_ (ac_ A)
 have q5:=ad_ (clsU A)
 have q6:=ad_ (stI A i)
 have q7:=ad_ (stI A (i+1))
 have pM:=fun M:Nat→Nat→Int=>aa_ M A.f.length 0
 have hfx:=as_ hxi
 have hcx:=m7_ hxn
 have hcl:=fun (y:Nat) (h:y<A.f.length)=>m7_ (A:=A) h
 have hsp:=fun (k:Nat) (y:Int) (h:(stI A i)[k]?=some y)=>as_ h
 have hset:=fun (M:Nat→Nat→Int) (v:Int)=>a8_ M (n:=A.f.length) (p:=0) (q:=x) v hxn
 have hss:=fun u v=>set_set (plI A i) x A.f.length u v
 have hst0:=vv_ hok hxi A.f.length
 have hnx:=y2_ hxi A.f.length
 have hhit:=fun (k:Nat) (y:Int) (h:(stI A i)[k]?=some y) (e:clsI A y=clsI A x)=>abz h e
 have hmiss:=fun (k:Nat) (y:Int) (h:(stI A i)[k]?=some y) (e:clsI A y≠clsI A x)=>x5_ h e
 have hsuc:=lo_ hxi
 have hbd:=ad7 A i x
 have hself:mrow (setM (plI A i) 0 x (hcI A i x 0)) A.f.length 0=mrow (plI A i) A.f.length 0:=by rw [yl_];exact hst0
 have hread:∀ v:Int,partD false 1 (x*1) (mrow (setM (plI A i) 0 x v) A.f.length 0)=some (.flat (.int .i64 v)):=fun v=>by
  rw [bg_ hxn];simp [setM]
 have hin:=fun h=>adm (A:=A) (i:=i) (x:=(x:Int)) h
 have hout:=fun h=>ab8 (A:=A) (i:=i) (x:=(x:Int)) h
 have hnew:=fun h=>abv hxi h
 have ibd:=fun h=>ex_ (ce_ A) (x:=(x:Int)) h
 generalize hLR:(A.r.map fun x=>D.flat (.int .i64 x))=LR at*
 generalize hLB:(A.f.map fun x=>D.flat (.bool x))=LB at*
 generalize hLT:ag_ A.to=LT at*
 generalize ((ac_ A).map fun x=>D.flat (.int .i64 x))=FU at*
 generalize ((clsU A).map fun x=>D.flat (.int .i64 x))=CU at*
 generalize A.r.length=lr at*
 generalize A.f.length=n at*
 generalize A.to.length=lt at*
 generalize (ac_ A).length=fl at*
 refine DW.sel hsel (by rfl) ?_
 have p00:=pM (plI A i)
 refine DW.walkTo 11 ?_
 rw [← hself]
 refine DW.walk ?_
 refine DW.loopA (fun k:Nat=>⟨[(1,.ref 1 0),(2,.ref 2 0),(4,.sl false 1 fl FU),(5,.sl false 1 n CU),(6,.own 601 (stI A i).length),(7,.own 32 n),(9,.flat (.int .i64 ((i:Nat):Int))),(10,.flat (.int .i64 ((k:Nat):Int)))],[(1,some (.box [.sl false 1 lr LR,.sl false 1 n LB,.sl false 1 lt LT])),(2,some (.box [.flat (.slice none 0 0),.flat (.slice none 0 0),.flat (.slice none 0 0)])),(601,some (.row 3 1 (stI A i).length ((stI A i).map fun x=>D.flat (.int .i64 x)))),(32,some (.row 3 1 n (mrow (setM (plI A i) 0 x (hcI A i x k)) n 0)))]⟩) (fun k=>k≤(stI A i).length) (fun k=>(stI A i).length - k) 0 ?_ (Nat.zero_le _)
 intro k hk
 rcases Nat.lt_or_ge k (stI A i).length with hlt2|hge
 ·obtain⟨y,hy,hyn⟩:=hst k hlt2
  refine (xu_ (by rfl) lr lt n fl i (stI A i).length k x y _ _ LR LB LT FU CU _ _ _ _ q1 q2 q3 q4 q5 q6 (pM _) (a6_ _ _ _) (pM (setM (plI A i) 0 x (hcI A i x (k+1)))) hn hL hfl hi hlt2 hxn hyn hfx (hsp k _ hy) hcx (hcl y hyn) (hset _ _) (fun e=>?_) (fun e=>?_)).mono ?_
  ·rw [hss,hhit k _ hy e]
  ·rw [hmiss k _ hy e]
  ·rintro e s' ⟨rfl,hsub⟩
   exact⟨k+1,by omega,by omega,hsub⟩
 ·obtain rfl:k=(stI A i).length:=by omega
  by_cases hm:clsI A (x:Int)∈(stI A i).map (clsI A)
  ·have h1:=hin hm
   rw [if_pos hm] at hsuc
   have hr:=hread (hcI A i x (stI A i).length)
   have p01:=pM (setM (plI A i) 0 x (hcI A i x (stI A i).length))
   rw [h1] at hr p01 ⊢
   rw [hnx] at hr p01 ⊢
   rw [hsuc]
   clear hset hss hhit hmiss hst hsp hcl hin hout hnew hread hself hst0 hnx h1 hm hbd ibd
   generalize mrow (plI A (i+1)) n 0=P1 at*
   generalize ((stI A i).map fun x=>D.flat (.int .i64 x))=SC at*
   generalize (stI A i).length=L at*
   generalize idxC A (stA A) (x:Int)=v at*
   refine DW.walk ?_
   exact Nm.mk Sub.auto
  ·have h1:=hout hm
   have h2:=hnew hm
   rw [if_neg hm] at hsuc
   have hr:=hread (hcI A i x (stI A i).length)
   have p01:=pM (setM (plI A i) 0 x (hcI A i x (stI A i).length))
   have hs3:=hset (setM (plI A i) 0 x (-1)) ((stI A i).length:Nat)
   rw [h1] at hr p01 ⊢
   rw [hss,← h2,hnx,h2] at hs3
   have p02:=pM (plI A (i+1))
   have hl0:=a6_ (setM (plI A i) 0 x (-1)) n 0
   have hll:(stI A (i+1)).length=(stI A i).length+1:=by rw [hsuc];simp
   have happ:((stI A i).map fun x=>D.flat (.int .i64 x))++ [.flat (.int .i64 ((x:Nat):Int))]=((stI A (i+1)).map fun x=>D.flat (.int .i64 x)):=by rw [hsuc];simp
   rw [hll]
   clear hset hss hhit hmiss hst hsp hcl hin hout hnew hread hself hst0 hnx h1 h2 hm hbd ibd hsuc
   generalize hP1:mrow (plI A (i+1)) n 0=P1 at*
   generalize mrow (setM (plI A i) 0 x (-1)) n 0=P0 at*
   generalize hS1:((stI A (i+1)).map fun x=>D.flat (.int .i64 x))=S1 at*
   generalize ((stI A i).map fun x=>D.flat (.int .i64 x))=S0 at*
   generalize (stI A i).length=L at*
   refine DW.walk ?_
   rw [hs3,happ]
   exact Nm.mk Sub.auto
theorem afc {cc:Code} (hsel:selC [1,1,1,1,1,1,1,1,0,1,2,2] d3_=some cc) (LR LB LT RR TT FQ G0 RW:List D) (n nR m y rl:Nat) (hn:0<n∧n≤512) (hm:m≤512) (hnR:nR≤4096) (hy:y<nR) (hrl:rl≤1000000) (p1:persL LR=true) (p2:persL LB=true) (p3:persL LT=true) (p5:persL RR=true) (p6:persL TT=true) (p7:persL FQ=true) (p8:persL G0=true) (p9:persL RW=true) (hLT:partD false 1 (y*1) LT=some (.sl false 1 rl RW)) (hLR:partD false 1 (y*1) LR=some (.flat (.int .i64 ((0:Nat):Int)))) (v:Int) (q:Nat) (h0:0<rl) (hq:partD false 1 (0*1) RW=some (.flat (.int .i64 ((q:Nat):Int)))) (hqn:q<n) (hv:partD false 1 (q*1) TT=some (.flat (.int .i64 v))):
  ∀ G1,G0++ [.sl false 1 1 [.flat (.int .i64 v)]]=G1→persL G1=true→DW Try.prog 269 cc ⟨[(1,.ref 1 0),(2,.ref 2 0),(6,.sl false 1 m RR),(7,.sl false 1 n TT),(11,.ref 11 0),(13,.flat (.int .i64 ((y:Nat):Int)))],[(1,some (.box [.sl false 1 nR LR,.sl false 1 n LB,.sl false 1 nR LT])),(2,some (.box [.flat (.slice none 0 0),.flat (.slice none 0 0),.flat (.slice none 0 0)])),(11,some (.box [.sl false 1 nR LR,.own 111 m,.own 112 y])),(111,some (.row 4 1 m FQ)),(112,some (.row 22 1 y G0))]⟩ (Nm 269 ⟨[(1,.ref 1 0),(2,.ref 2 0),(6,.sl false 1 m RR),(7,.sl false 1 n TT),(11,.ref 11 0),(13,.flat (.int .i64 (((y+1):Nat):Int)))],[(1,some (.box [.sl false 1 nR LR,.sl false 1 n LB,.sl false 1 nR LT])),(2,some (.box [.flat (.slice none 0 0),.flat (.slice none 0 0),.flat (.slice none 0 0)])),(11,some (.box [.sl false 1 nR LR,.own 111 m,.own 112 (y+1)])),(111,some (.row 4 1 m FQ)),(112,some (.row 22 1 (y+1) G1))]⟩):=by
 intro G1 hG p10
 refine DW.sel hsel (by rfl) ?_
 refine DW.walkTo 44 ?_
 refine DW.sub (w8_ 14 rfl Le.full) ?_
 refine DW.walk ?_
 rw [hG]
 exact Nm.mk Sub.auto
theorem aev {cc:Code} (hsel:selC [1,1,1,1,1,1,1,1,0,1,2,2] d3_=some cc) (LR LB LT RR TT FQ G0 RW:List D) (n nR m y rl:Nat) (hn:0<n∧n≤512) (hm:m≤512) (hnR:nR≤4096) (hy:y<nR) (hrl:rl≤1000000) (p1:persL LR=true) (p2:persL LB=true) (p3:persL LT=true) (p5:persL RR=true) (p6:persL TT=true) (p7:persL FQ=true) (p8:persL G0=true) (p9:persL RW=true) (hLT:partD false 1 (y*1) LT=some (.sl false 1 rl RW)) (hLR:partD false 1 (y*1) LR=some (.flat (.int .i64 ((1:Nat):Int)))) (v:Nat→Int) (hP:∀ P,P<m→ ∃ t q:Nat,partD false 1 (P*1) RR=some (.flat (.int .i64 ((t:Nat):Int)))∧t<rl∧partD false 1 (t*1) RW=some (.flat (.int .i64 ((q:Nat):Int)))∧q<n∧partD false 1 (q*1) TT=some (.flat (.int .i64 (v P)))):
  ∀ G1,G0++ [.sl false 1 m ((List.range (m)).map fun p=>D.flat (.int .i64 (v p)))]=G1→persL G1=true→DW Try.prog 269 cc ⟨[(1,.ref 1 0),(2,.ref 2 0),(6,.sl false 1 m RR),(7,.sl false 1 n TT),(11,.ref 11 0),(13,.flat (.int .i64 ((y:Nat):Int)))],[(1,some (.box [.sl false 1 nR LR,.sl false 1 n LB,.sl false 1 nR LT])),(2,some (.box [.flat (.slice none 0 0),.flat (.slice none 0 0),.flat (.slice none 0 0)])),(11,some (.box [.sl false 1 nR LR,.own 111 m,.own 112 y])),(111,some (.row 4 1 m FQ)),(112,some (.row 22 1 y G0))]⟩ (Nm 269 ⟨[(1,.ref 1 0),(2,.ref 2 0),(6,.sl false 1 m RR),(7,.sl false 1 n TT),(11,.ref 11 0),(13,.flat (.int .i64 (((y+1):Nat):Int)))],[(1,some (.box [.sl false 1 nR LR,.sl false 1 n LB,.sl false 1 nR LT])),(2,some (.box [.flat (.slice none 0 0),.flat (.slice none 0 0),.flat (.slice none 0 0)])),(11,some (.box [.sl false 1 nR LR,.own 111 m,.own 112 (y+1)])),(111,some (.row 4 1 m FQ)),(112,some (.row 22 1 (y+1) G1))]⟩):=by
 have pV:=v5_ v
 intro G1 hG p10
 refine DW.sel hsel (by rfl) ?_
 refine DW.walkTo 28 ?_
 refine DW.adopt 14 113 3 1 rfl rfl ?_
 refine DW.walk ?_
 refine DW.loopA (fun P:Nat=>⟨[(14,.own 113 P),(15,.flat (.int .i64 ((P:Nat):Int))),(1,.ref 1 0),(2,.ref 2 0),(6,.sl false 1 m RR),(7,.sl false 1 n TT),(11,.ref 11 0),(13,.flat (.int .i64 ((y:Nat):Int)))],[(1,some (.box [.sl false 1 nR LR,.sl false 1 n LB,.sl false 1 nR LT])),(2,some (.box [.flat (.slice none 0 0),.flat (.slice none 0 0),.flat (.slice none 0 0)])),(11,some (.box [.sl false 1 nR LR,.own 111 m,.own 112 y])),(111,some (.row 4 1 m FQ)),(112,some (.row 22 1 y G0)),(113,some (.row 3 1 P ((List.range (P)).map fun p=>D.flat (.int .i64 (v p)))))]⟩) (fun P=>P≤m) (fun P=>m - P) 0 ?_ (Nat.zero_le _)
 intro P hP2
 rcases Nat.lt_or_ge P m with hlt|hge
 ·obtain⟨t,q,a1,a2,a3,a4,a5⟩:=hP P hlt
  have e1:=u1_ v P
  have w0:=pV P
  have w1:=pV (P+1)
  generalize hV1:((List.range (P+1)).map fun p=>D.flat (.int .i64 (v p)))=V1 at*
  generalize ((List.range (P)).map fun p=>D.flat (.int .i64 (v p)))=V0 at*
  clear hP pV
  refine DW.walk ?_
  rw [e1]
  exact⟨P+1,by omega,by omega,by rw [hV1];exact Sub.auto⟩
 ·obtain rfl:m=P:=by omega
  have w0:=pV m
  generalize ((List.range (m)).map fun p=>D.flat (.int .i64 (v p)))=V0 at*
  clear hP pV
  refine DW.walkTo 44 ?_
  refine DW.sub (s':=⟨[(14,.sl false 1 m V0),(1,.ref 1 0),(2,.ref 2 0),(6,.sl false 1 m RR),(7,.sl false 1 n TT),(11,.ref 11 0),(13,.flat (.int .i64 ((y:Nat):Int)))],[(1,some (.box [.sl false 1 nR LR,.sl false 1 n LB,.sl false 1 nR LT])),(2,some (.box [.flat (.slice none 0 0),.flat (.slice none 0 0),.flat (.slice none 0 0)])),(11,some (.box [.sl false 1 nR LR,.own 111 m,.own 112 y])),(111,some (.row 4 1 m FQ)),(112,some (.row 22 1 y G0))]⟩) Sub.auto ?_
  refine DW.walk ?_
  rw [hG]
  exact Nm.mk Sub.auto
theorem ad8 {cc:Code} (hsel:selC [1,1,1,1,1,1,1,1,0,1,2,2] d3_=some cc) (LR LB LT RR TT FQ G0 RW:List D) (n nR m y rl:Nat) (hn:0<n∧n≤512) (hm:m≤512) (hnR:nR≤4096) (hy:y<nR) (hrl:rl≤1000000) (p1:persL LR=true) (p2:persL LB=true) (p3:persL LT=true) (p5:persL RR=true) (p6:persL TT=true) (p7:persL FQ=true) (p8:persL G0=true) (p9:persL RW=true) (hLT:partD false 1 (y*1) LT=some (.sl false 1 rl RW)) (hLR:partD false 1 (y*1) LR=some (.flat (.int .i64 ((2:Nat):Int)))) (v:Nat→Int) (hW:∀ w,w<m→ ∃ t:Nat,partD false 1 (w*1) RR=some (.flat (.int .i64 ((t:Nat):Int)))∧(t:Int)*(n:Int)≤300000∧t<n) (hP:∀ w u t t':Nat,w<m→u<m→partD false 1 (w*1) RR=some (.flat (.int .i64 ((t:Nat):Int)))→partD false 1 (u*1) RR=some (.flat (.int .i64 ((t':Nat):Int)))→ ∃ q:Nat,t*n+t'<rl∧partD false 1 ((t*n+t')*1) RW=some (.flat (.int .i64 ((q:Nat):Int)))∧q<n∧partD false 1 (q*1) TT=some (.flat (.int .i64 (v (w*m+u))))):
  ∀ G1,G0++ [.sl false 1 (m*m) ((List.range (m*m)).map fun p=>D.flat (.int .i64 (v p)))]=G1→persL G1=true→DW Try.prog 269 cc ⟨[(1,.ref 1 0),(2,.ref 2 0),(6,.sl false 1 m RR),(7,.sl false 1 n TT),(11,.ref 11 0),(13,.flat (.int .i64 ((y:Nat):Int)))],[(1,some (.box [.sl false 1 nR LR,.sl false 1 n LB,.sl false 1 nR LT])),(2,some (.box [.flat (.slice none 0 0),.flat (.slice none 0 0),.flat (.slice none 0 0)])),(11,some (.box [.sl false 1 nR LR,.own 111 m,.own 112 y])),(111,some (.row 4 1 m FQ)),(112,some (.row 22 1 y G0))]⟩ (Nm 269 ⟨[(1,.ref 1 0),(2,.ref 2 0),(6,.sl false 1 m RR),(7,.sl false 1 n TT),(11,.ref 11 0),(13,.flat (.int .i64 (((y+1):Nat):Int)))],[(1,some (.box [.sl false 1 nR LR,.sl false 1 n LB,.sl false 1 nR LT])),(2,some (.box [.flat (.slice none 0 0),.flat (.slice none 0 0),.flat (.slice none 0 0)])),(11,some (.box [.sl false 1 nR LR,.own 111 m,.own 112 (y+1)])),(111,some (.row 4 1 m FQ)),(112,some (.row 22 1 (y+1) G1))]⟩):=by
 have pV:=v5_ v
 intro G1 hG p10
 refine DW.sel hsel (by rfl) ?_
 refine DW.walkTo 28 ?_
 refine DW.adopt 14 113 3 1 rfl rfl ?_
 refine DW.walk ?_
 refine DW.loopA (fun w:Nat=>⟨[(14,.own 113 (w*m)),(16,.flat (.int .i64 ((w:Nat):Int))),(1,.ref 1 0),(2,.ref 2 0),(6,.sl false 1 m RR),(7,.sl false 1 n TT),(11,.ref 11 0),(13,.flat (.int .i64 ((y:Nat):Int)))],[(1,some (.box [.sl false 1 nR LR,.sl false 1 n LB,.sl false 1 nR LT])),(2,some (.box [.flat (.slice none 0 0),.flat (.slice none 0 0),.flat (.slice none 0 0)])),(11,some (.box [.sl false 1 nR LR,.own 111 m,.own 112 y])),(111,some (.row 4 1 m FQ)),(112,some (.row 22 1 y G0)),(113,some (.row 3 1 (w*m) ((List.range (w*m)).map fun p=>D.flat (.int .i64 (v p)))))]⟩) (fun w=>w≤m) (fun w=>m - w) 0 ?_ (Nat.zero_le _) (by rw [Nat.zero_mul];exact Sub.auto)
 intro w hw2
 rcases Nat.lt_or_ge w m with hlt|hge
 ·obtain⟨t,a1,a2,a3⟩:=hW w hlt
  have w0:=pV (w*m)
  obtain⟨b,hb⟩:∃ b,w*m=b:=⟨_,rfl⟩
  have hb1:(w+1)*m=b+m:=by rw [Nat.succ_mul,hb]
  have hbm:b≤262144:=by rw [← hb];exact Nat.le_trans (Nat.mul_le_mul (show w≤512 by omega) hm) (by decide)
  rw [hb] at w0 ⊢
  generalize hV0:((List.range (b)).map fun p=>D.flat (.int .i64 (v p)))=V0 at*
  refine DW.walk ?_
  refine DW.loopA (fun u:Nat=>⟨[(17,.flat (.int .i64 ((u:Nat):Int))),(14,.own 113 (b+u)),(16,.flat (.int .i64 ((w:Nat):Int))),(1,.ref 1 0),(2,.ref 2 0),(6,.sl false 1 m RR),(7,.sl false 1 n TT),(11,.ref 11 0),(13,.flat (.int .i64 ((y:Nat):Int)))],[(1,some (.box [.sl false 1 nR LR,.sl false 1 n LB,.sl false 1 nR LT])),(2,some (.box [.flat (.slice none 0 0),.flat (.slice none 0 0),.flat (.slice none 0 0)])),(11,some (.box [.sl false 1 nR LR,.own 111 m,.own 112 y])),(111,some (.row 4 1 m FQ)),(112,some (.row 22 1 y G0)),(113,some (.row 3 1 (b+u) ((List.range (b+u)).map fun p=>D.flat (.int .i64 (v p)))))]⟩) (fun u=>u≤m) (fun u=>m - u) 0 ?_ (Nat.zero_le _) (by rw [Nat.add_zero,hV0];exact Sub.auto)
  intro u hu2
  rcases Nat.lt_or_ge u m with hul|hug
  ·obtain⟨t',c1,c2,c3⟩:=hW u hul
   obtain⟨q,d1,d2,d3,d4⟩:=hP w u t t' hlt hul a1 c1
   rw [hb] at d4
   have e1:=u1_ v (b+u)
   have w1:=pV (b+u)
   have w2:=pV (b+u+1)
   generalize hV1:((List.range (b+u+1)).map fun p=>D.flat (.int .i64 (v p)))=V1 at*
   generalize ((List.range (b+u)).map fun p=>D.flat (.int .i64 (v p)))=VX at*
   clear hP pV hW
   refine DW.walk ?_
   rw [e1]
   exact⟨u+1,by omega,by omega,by rw [show b+(u+1)=b+u+1 from rfl,hV1];exact Sub.auto⟩
  ·obtain rfl:m=u:=by omega
   have w1:=pV (b+m)
   generalize hVX:((List.range (b+m)).map fun p=>D.flat (.int .i64 (v p)))=VX at*
   clear hP pV hW
   refine DW.walk ?_
   exact⟨w+1,by omega,by omega,by rw [hb1,hVX];exact Sub.auto⟩
 ·obtain rfl:m=w:=by omega
  have w0:=pV (m*m)
  have hbm:m*m≤262144:=Nat.le_trans (Nat.mul_le_mul hm hm) (by decide)
  obtain⟨b,hb⟩:∃ b,m*m=b:=⟨_,rfl⟩
  rw [hb] at w0 hbm hG ⊢
  generalize ((List.range (b)).map fun p=>D.flat (.int .i64 (v p)))=V0 at*
  clear hP pV hW
  refine DW.walkTo 44 ?_
  refine DW.sub (s':=⟨[(14,.sl false 1 b V0),(1,.ref 1 0),(2,.ref 2 0),(6,.sl false 1 m RR),(7,.sl false 1 n TT),(11,.ref 11 0),(13,.flat (.int .i64 ((y:Nat):Int)))],[(1,some (.box [.sl false 1 nR LR,.sl false 1 n LB,.sl false 1 nR LT])),(2,some (.box [.flat (.slice none 0 0),.flat (.slice none 0 0),.flat (.slice none 0 0)])),(11,some (.box [.sl false 1 nR LR,.own 111 m,.own 112 y])),(111,some (.row 4 1 m FQ)),(112,some (.row 22 1 y G0))]⟩) Sub.auto ?_
  refine DW.walk ?_
  rw [hG]
  exact Nm.mk Sub.auto
def pF (A:Au) (q:Nat):Int:=plI A (ac_ A).length 0 q
theorem wx_ {A:Au} {q:Nat} (h:(q:Int)∈ac_ A):pF A q=((idxC A (stA A) (q:Int):Nat):Int):=by
 unfold pF plI
 rw [List.take_length,if_pos h]
theorem afb {A:Au} {q:Nat} (h:(q:Int) ∉ ac_ A):pF A q= -1:=by
 unfold pF plI
 rw [List.take_length,if_neg h]
theorem p4_ {A:Au} {r:Int} (h:r∈stA A):r∈ac_ A:=(ce_ A).found r h
theorem tv_ {A:Au} (hok:AuOk A) {i k:Nat} (hi:A.r[i]?=some (k:Int)) {ds:List Int} (hl:ds.length=k) (hd:∀ d∈ds,d∈ac_ A):∃ (p:Nat) (row:List Int) (q:Nat),A.to[i]?=some row∧a0_ A.f.length ds=(p:Int)∧row[p]?=some (q:Int)∧q<A.f.length∧row.length≤1000000∧pF A q=((idxC A (stA A) (atI A i ds):Nat):Int):=by
 have hf:Fits A i ds:=⟨by omega,by have:=(List.getElem?_eq_some_iff.1 hi).1;omega,by rw [hl];simp [List.getD,hi],fun d h=>av_ hok (hd d h)⟩
 obtain⟨i',p,row,q,e1,h1,h2,h3,h4,h5,h6, -, -, -⟩:=hf.at hok
 have e1:i'=i:=by omega
 subst e1
 have hfq:atI A i' ds∈ac_ A:=c3_ hok hi hl hd
 obtain⟨x0,x1⟩:=av_ hok hfq
 rw [h6] at hfq x0 x1 ⊢
 obtain⟨t,rfl⟩:=Int.eq_ofNat_of_zero_le x0
 exact⟨p,row,t,h2,h3,h5,by omega,(bs_ hok).l row (List.mem_of_getElem? h2),wx_ hfq⟩
theorem x1_ {A:Au} (hok:AuOk A) {i:Nat} (hi:A.r[i]?=some ((0:Nat):Int)) (m:Nat):∃ (row:List Int) (q:Nat),A.to[i]?=some row∧row[0]?=some (q:Int)∧q<A.f.length∧row.length≤1000000∧pF A q=qT A (stA A) i (digs m 0 0):=by
 obtain⟨p,row,q,h1,h2,h3,h4,h5,h6⟩:=tv_ hok hi (ds:=[]) rfl (by simp)
 have h2:(0:Int)=(p:Int):=by rw [← h2];rfl
 have:p=0:=by omega
 subst this
 exact⟨row,q,h1,h3,h4,h5,h6⟩
theorem zn_ {A:Au} (hok:AuOk A) {i:Nat} (hi:A.r[i]?=some ((1:Nat):Int)) {P t:Nat} (ht:(stA A)[P]?=some (t:Int)):∃ (row:List Int) (q:Nat),A.to[i]?=some row∧row[t]?=some (q:Int)∧q<A.f.length∧row.length≤1000000∧pF A q=qT A (stA A) i (digs (stA A).length 1 P):=by
 have hP:=(List.getElem?_eq_some_iff.1 ht).1
 obtain⟨p,row,q,h1,h2,h3,h4,h5,h6⟩:=tv_ hok hi (ds:=[(t:Int)]) rfl (fun d hd=>by rw [List.mem_singleton] at hd;subst hd;exact (ce_ A).found _ (List.mem_of_getElem? ht))
 have h2:(0*(A.f.length:Int)+(t:Int))=(p:Int):=by rw [← h2];simp [a0_]
 have:p=t:=by omega
 subst this
 refine⟨row,q,h1,h3,h4,h5,h6.trans ?_⟩
 unfold qT
 rw [h1_ hP,List.map_cons,List.map_nil,kp_ ht]
theorem zd_ {A:Au} (hok:AuOk A) {i:Nat} (hi:A.r[i]?=some ((2:Nat):Int)) {w v t u:Nat} (ht:(stA A)[w]?=some (t:Int)) (hu:(stA A)[v]?=some (u:Int)):∃ (row:List Int) (q:Nat),A.to[i]?=some row∧row[t*A.f.length+u]?=some (q:Int)∧q<A.f.length∧row.length≤1000000∧pF A q=qT A (stA A) i (digs (stA A).length 2 (w*(stA A).length+v)):=by
 have hw:=(List.getElem?_eq_some_iff.1 ht).1
 have hv:=(List.getElem?_eq_some_iff.1 hu).1
 obtain⟨p,row,q,h1,h2,h3,h4,h5,h6⟩:=tv_ hok hi (ds:=[(t:Int),(u:Int)]) rfl (fun d hd=>by
  rcases List.mem_cons.1 hd with rfl|hd
  ·exact (ce_ A).found _ (List.mem_of_getElem? ht)
  ·rw [List.mem_singleton] at hd;subst hd;exact (ce_ A).found _ (List.mem_of_getElem? hu))
 have h2:((t:Int)*(A.f.length:Int)+(u:Int))=(p:Int):=by rw [← h2];simp [a0_]
 have:p=t*A.f.length+u:=by
  have h7:((t*A.f.length+u:Nat):Int)=(t:Int)*(A.f.length:Int)+(u:Int):=by push_cast;rfl
  omega
 subst this
 refine⟨row,q,h1,h3,h4,h5,h6.trans ?_⟩
 unfold qT
 rw [l3_ hw hv,List.map_cons,List.map_cons,List.map_nil,kp_ ht,kp_ hu]
theorem z6_ {cc:Code} (hsel:selC [1,1,1,1,1,1,1,1,0,1,2,2] d3_=some cc) (A:Au) (hk:chk A=0) (y:Nat) (hyl:y<A.r.length):
  DW Try.prog 269 cc ⟨[(1,.ref 1 0),(2,.ref 2 0),(6,.sl false 1 (stA A).length ((stA A).map fun x=>D.flat (.int .i64 x))),(7,.sl false 1 A.f.length (mrow (plI A (ac_ A).length) A.f.length 0)),(11,.ref 11 0),(13,.flat (.int .i64 ((y:Nat):Int)))],[(1,some (.box [.sl false 1 A.r.length (A.r.map fun x=>D.flat (.int .i64 x)),.sl false 1 A.f.length (A.f.map fun x=>D.flat (.bool x)),.sl false 1 A.r.length (ag_ A.to)])),(2,some (.box [.flat (.slice none 0 0),.flat (.slice none 0 0),.flat (.slice none 0 0)])),(11,some (.box [.sl false 1 A.r.length (A.r.map fun x=>D.flat (.int .i64 x)),.own 111 (stA A).length,.own 112 y])),(111,some (.row 4 1 (stA A).length (((List.range (stA A).length).map (qF A (stA A))).map fun x=>D.flat (.bool x)))),(112,some (.row 22 1 y (ag_ ((aj_ (stA A).length (qT A (stA A)) A.r).take y))))]⟩ (Nm 269 ⟨[(1,.ref 1 0),(2,.ref 2 0),(6,.sl false 1 (stA A).length ((stA A).map fun x=>D.flat (.int .i64 x))),(7,.sl false 1 A.f.length (mrow (plI A (ac_ A).length) A.f.length 0)),(11,.ref 11 0),(13,.flat (.int .i64 (((y+1):Nat):Int)))],[(1,some (.box [.sl false 1 A.r.length (A.r.map fun x=>D.flat (.int .i64 x)),.sl false 1 A.f.length (A.f.map fun x=>D.flat (.bool x)),.sl false 1 A.r.length (ag_ A.to)])),(2,some (.box [.flat (.slice none 0 0),.flat (.slice none 0 0),.flat (.slice none 0 0)])),(11,some (.box [.sl false 1 A.r.length (A.r.map fun x=>D.flat (.int .i64 x)),.own 111 (stA A).length,.own 112 (y+1)])),(111,some (.row 4 1 (stA A).length (((List.range (stA A).length).map (qF A (stA A))).map fun x=>D.flat (.bool x)))),(112,some (.row 22 1 (y+1) (ag_ ((aj_ (stA A).length (qT A (stA A)) A.r).take (y+1)))))]⟩):=by
 have hok:=a4_ hk
 have hnn:=hok.hi
 have hlo:=hok.lo
 have hTl:A.to.length=A.r.length:=hok.len
 have hrkl:A.r.length≤4096:=hok.alpha.hi
 have hm5:(stA A).length≤512:=Nat.le_trans ((ce_ A).len hok) hnn
 have q1:=ad_ A.r
 have q2:=ai_ A.f
 have q3:=al_ A.to
 have u0:=ad_ (stA A)
 have t0:=aa_ (plI A (ac_ A).length) A.f.length 0
 have v0:=ai_ ((List.range (stA A).length).map (qF A (stA A)))
 have w0:=al_ ((aj_ (stA A).length (qT A (stA A)) A.r).take y)
 have w1:=al_ ((aj_ (stA A).length (qT A (stA A)) A.r).take (y+1))
 have hRp:∀ (i:Nat) (x:Int),(stA A)[i]?=some x→partD false 1 (i*1) ((stA A).map fun x=>D.flat (.int .i64 x))=some (.flat (.int .i64 x)):=fun i x h=>as_ h
 have hRf:∀ i,i<(stA A).length→ ∃ t:Nat,(stA A)[i]?=some (t:Int)∧t<A.f.length:=fun i h=>by
  have hx:(stA A)[i]?=some (stA A)[i]:=by simp
  obtain⟨x0,x1⟩:=av_ hok (p4_ (List.mem_of_getElem? hx))
  obtain⟨t,ht⟩:=Int.eq_ofNat_of_zero_le x0
  exact⟨t,by rw [hx,ht],by omega⟩
 have hTO:∀ (t:Nat) (b:List Int),A.to[t]?=some b→partD false 1 (t*1) (ag_ A.to)=some (.sl false 1 b.length (b.map fun x=>D.flat (.int .i64 x))):=fun t b h=>c8_ h
 have hTTp:∀ q,q<A.f.length→partD false 1 (q*1) (mrow (plI A (ac_ A).length) A.f.length 0)=some (.flat (.int .i64 (pF A q))):=fun q hq=>bg_ hq
 have hsn:∀ (k:Int),A.r[y]?=some k→ag_ ((aj_ (stA A).length (qT A (stA A)) A.r).take (y+1))=ag_ ((aj_ (stA A).length (qT A (stA A)) A.r).take y)++ [.sl false 1 (az_ (stA A).length (qT A (stA A)) y k).length ((az_ (stA A).length (qT A (stA A)) y k).map fun x=>D.flat (.int .i64 x))]:=fun k h=>gg_ (er_ h)
 have hfew:=bs_ hok
 have c0:=fun (h:A.r[y]?=some ((0:Nat):Int))=>x1_ hok h (stA A).length
 have c1:=fun (h:A.r[y]?=some ((1:Nat):Int)) (P t:Nat) (ht:(stA A)[P]?=some (t:Int))=>zn_ hok h ht
 have c2:=fun (h:A.r[y]?=some ((2:Nat):Int)) (w v t u:Nat) (ht:(stA A)[w]?=some (t:Int)) (hu:(stA A)[v]?=some (u:Int))=>zd_ hok h ht hu
 obtain⟨k1,hk2, -⟩:=de_ hok hyl
 generalize (A.r.getD y 0).toNat=k at*
 have hpk:=as_ k1
 have hs:=hsn _ k1
 obtain⟨m,hm⟩:∃ m,(stA A).length=m:=⟨_,rfl⟩
 obtain⟨n,hn⟩:∃ n,A.f.length=n:=⟨_,rfl⟩
 rw [hm] at hm5 hRf hsn hs c0 c1 c2 v0 w0 w1 ⊢
 rw [hn] at hnn hlo hRf hTTp c2 t0 ⊢
 clear hsn
 generalize hRRe:((stA A).map fun x=>D.flat (.int .i64 x))=RR at*
 generalize mrow (plI A (ac_ A).length) n 0=TT at*
 generalize (((List.range m).map (qF A (stA A))).map fun x=>D.flat (.bool x))=FQ at*
 generalize (A.r.map fun x=>D.flat (.int .i64 x))=LR at*
 generalize (A.f.map fun x=>D.flat (.bool x))=LB at*
 generalize ag_ A.to=LT at*
 rcases (show k=0∨k=1∨k=2 by omega) with rfl|rfl|rfl
 ·obtain⟨row,q,e1,e2,e3,e4,e5⟩:=c0 k1
  have htab:az_ m (qT A (stA A)) y ((0:Nat):Int)=[pF A q]:=by rw [e5];simp [az_,ba_]
  rw [htab] at hs
  have hG:=hs.symm
  exact afc hsel LR LB LT RR TT FQ _ _ n A.r.length m y row.length ⟨hlo,hnn⟩ hm5 hrkl hyl e4 q1 q2 q3 u0 t0 v0 w0 (ad_ row) (hTO y row e1) hpk _ q (List.getElem?_eq_some_iff.1 e2).1 (as_ e2) (by omega) (hTTp q (by omega)) _ hG w1
 ·obtain⟨row,e1⟩:∃ row,A.to[y]?=some row:=⟨A.to[y]'(by omega),by simp⟩
  have htl:(az_ m (qT A (stA A)) y ((1:Nat):Int)).length=m:=by simp [az_,ba_]
  have htab:((az_ m (qT A (stA A)) y ((1:Nat):Int)).map fun x=>D.flat (.int .i64 x))=(List.range m).map fun p=>D.flat (.int .i64 (qT A (stA A) y (digs m 1 p))):=by simp [az_,ba_,List.map_map,Function.comp_def]
  rw [htl,htab] at hs
  have hG:=hs.symm
  refine aev hsel LR LB LT RR TT FQ _ _ n A.r.length m y row.length ⟨hlo,hnn⟩ hm5 hrkl hyl (hfew.l row (List.mem_of_getElem? e1)) q1 q2 q3 u0 t0 v0 w0 (ad_ row) (hTO y row e1) hpk (fun p=>qT A (stA A) y (digs m 1 p)) (fun P hP=>?_) _ hG w1
  obtain⟨t,ht,htn⟩:=hRf P hP
  obtain⟨row',q,d1,d2,d3,d4,d5⟩:=c1 k1 P t ht
  rw [e1] at d1
  cases d1
  exact⟨t,q,hRp P _ ht,(List.getElem?_eq_some_iff.1 d2).1,as_ d2,by omega,by rw [← d5];exact hTTp q (by omega)⟩
 ·obtain⟨row,e1⟩:∃ row,A.to[y]?=some row:=⟨A.to[y]'(by omega),by simp⟩
  have hw2:ba_ ((2:Nat):Int) m=m*m:=by simp [ba_,Nat.pow_two]
  have htl:(az_ m (qT A (stA A)) y ((2:Nat):Int)).length=m*m:=by simp only [az_,List.length_map,List.length_range,hw2]
  have htab:((az_ m (qT A (stA A)) y ((2:Nat):Int)).map fun x=>D.flat (.int .i64 x))=(List.range (m*m)).map fun p=>D.flat (.int .i64 (qT A (stA A) y (digs m 2 p))):=by
   unfold az_
   rw [hw2,List.map_map];rfl
  rw [htl,htab] at hs
  have hG:=hs.symm
  refine ad8 hsel LR LB LT RR TT FQ _ _ n A.r.length m y row.length ⟨hlo,hnn⟩ hm5 hrkl hyl (hfew.l row (List.mem_of_getElem? e1)) q1 q2 q3 u0 t0 v0 w0 (ad_ row) (hTO y row e1) hpk (fun p=>qT A (stA A) y (digs m 2 p)) (fun w hw=>?_) (fun w u t t' hw hu ht ht'=>?_) _ hG w1
  ·obtain⟨t,ht,htn⟩:=hRf w hw
   refine⟨t,hRp w _ ht,?_,htn⟩
   have h2:((t*n:Nat):Int)≤((512*512:Nat):Int):=Int.ofNat_le.2 (Nat.mul_le_mul (by omega) hnn)
   rw [Int.natCast_mul] at h2
   omega
  ·obtain⟨tw,htw,_⟩:=hRf w hw
   obtain⟨tu,htu,_⟩:=hRf u hu
   have z1:=hRp w _ htw
   rw [ht] at z1
   have z2:=hRp u _ htu
   rw [ht'] at z2
   simp only [Option.some.injEq,D.flat.injEq,Value.int.injEq,true_and] at z1 z2
   have z1:t=tw:=by omega
   have z2:t'=tu:=by omega
   subst z1;subst z2
   obtain⟨row',q,d1,d2,d3,d4,d5⟩:=c2 k1 w u t t' htw htu
   rw [e1] at d1
   cases d1
   exact⟨q,(List.getElem?_eq_some_iff.1 d2).1,as_ d2,by omega,by rw [← d5];exact hTTp q (by omega)⟩
def neg1 (k:Nat):Nat→Nat→Int:=fun _ j=>if j<k then -1 else 0
theorem vs_ (n:Nat):List.replicate n (D.flat (.int .i64 0))=mrow (neg1 0) n 0:=by
 unfold mrow neg1
 simp
 rw [List.map_const',List.length_range]
theorem v2_ (k n:Nat) (h:k<n):mrow (setM (neg1 k) 0 k (-1)) n 0=mrow (neg1 (k+1)) n 0:=cx_ fun j _=>by
 unfold setM neg1
 by_cases e:j=k
 ·subst e;rw [if_pos ⟨rfl,rfl⟩,if_pos (by omega)]
 ·rw [if_neg (fun q=>e q.2)]
  by_cases h2:j<k
  ·rw [if_pos h2,if_pos (by omega)]
  ·rw [if_neg h2,if_neg (by omega)]
theorem x2_ (A:Au) (n:Nat):mrow (neg1 n) n 0=mrow (plI A 0) n 0:=by
 rw [xn_]
 exact cx_ fun j h=>by unfold neg1;rw [if_pos h]
def whI (o:List Int) (i:Nat):Nat→Nat→Int:=fun _ s=>if (s:Int)∈o.take i then ((o.idxOf (s:Int):Nat):Int) else 0
theorem xi_ (o:List Int) (n:Nat):List.replicate n (D.flat (.int .i64 0))=mrow (whI o 0) n 0:=by
 unfold mrow whI
 simp
 rw [List.map_const',List.length_range]
theorem yq_ {o:List Int} (hnd:o.Nodup) {i x:Nat} (h:o[i]?=some (x:Int)) (n:Nat):mrow (setM (whI o i) 0 x (i:Int)) n 0=mrow (whI o (i+1)) n 0:=cx_ fun j _=>by
 unfold setM whI
 rw [List.take_add_one,h,Option.toList_some]
 by_cases e:j=x
 ·subst e
  rw [if_pos ⟨rfl,rfl⟩,if_pos (by simp),gh_ _ _ _ hnd h]
 ·rw [if_neg (fun q=>e q.2)]
  have hn:((j:Nat):Int)≠(x:Int):=by omega
  by_cases hm:((j:Nat):Int)∈o.take i
  ·rw [if_pos hm,if_pos (List.mem_append_left _ hm)]
  ·rw [if_neg hm,if_neg (fun q=>(List.mem_append.1 q).elim hm (fun q=>hn (List.mem_singleton.1 q)))]
theorem aa2 {n:Nat} {o:List Int} (hp:PermOk n o):mrow (whI o o.length) n 0=(cq_ n o).map fun x=>D.flat (.int .i64 x):=by
 unfold mrow cq_
 rw [List.map_map]
 refine List.map_congr_left fun j hj=>?_
 have hm:=ei_ _ _ hp j (List.mem_range.1 hj)
 unfold whI
 rw [List.take_length,if_pos hm]
 show _=D.flat (.int .i64 (hasI o (j:Int)))
 rw [bz_ hm]
theorem yw_ (A:Au) (reps:List Int):auD (quoA A reps)= .agg [.sl false 1 A.r.length (A.r.map fun x=>D.flat (.int .i64 x)),.sl false 1 reps.length (((List.range reps.length).map (qF A reps)).map fun x=>D.flat (.bool x)),.sl false 1 A.r.length (ag_ (aj_ reps.length (qT A reps) A.r))]:=by
 rw [au_]
 unfold quoA cj_
 simp only [List.length_map,List.length_range]
 rw [show (aj_ reps.length (qT A reps) A.r).length=A.r.length by simp [aj_]]
end Go.Proofs.Ytichhfbkhnimmaa
