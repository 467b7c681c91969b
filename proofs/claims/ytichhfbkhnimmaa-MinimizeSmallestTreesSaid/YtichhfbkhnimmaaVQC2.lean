/- The quotient: a symbol of rank 0. No condition. -/
import Derived.Test.YtichhfbkhnimmaaVFO4
set_option linter.unusedSimpArgs false
set_option linter.unusedVariables false
set_option maxHeartbeats 4000000
set_option maxRecDepth 8000
namespace Go.Proofs.Ytichhfbkhnimmaa
open Go Go.RowKit Go.PP Go.Dm Go.Rt Go.Mn
noncomputable abbrev m4_:Code:=Try.f99.body.getD .skip
theorem aba {N:Nat} {f:Fr} {σ:Sg} {d d':D} (t:Nat) (h:lkF f t=d) (hl:Le d d'):Sub N ⟨f,σ⟩ ⟨(t,d')::f,σ⟩:=fun w0 M0 B0 a w ⟨g,hs⟩=>⟨g,hs.setF t d' (hl _ _ _ _ hs.mlt (by have:=hs.tm t;rw [show lkF (DS.f ⟨f,σ⟩) t=d from h] at this;exact this))⟩
theorem ael {cc:Code} (hsel:selC [1,1,1,1,1,1,1,1,1,0,1,2,2] m4_=some cc) (LR LB LT LF RR TT FQ G0 RW:List D) (n nR m y rl:Nat) (hn:0<n∧n≤512) (hm:m≤512) (hnR:nR≤4096) (hy:y<nR) (hrl:rl≤1000000) (p1:persL LR=true) (p2:persL LB=true) (p3:persL LT=true) (p4:persL LF=true) (p5:persL RR=true) (p6:persL TT=true) (p7:persL FQ=true) (p8:persL G0=true) (p9:persL RW=true) (hLT:partD false 1 (y*1) LT=some (.sl false 1 rl RW)) (hLR:partD false 1 (y*1) LR=some (.flat (.int .i64 ((0:Nat):Int)))) (v:Int) (q:Nat) (h0:0<rl) (hq:partD false 1 (0*1) RW=some (.flat (.int .i64 ((q:Nat):Int)))) (hqn:q<n) (hv:partD false 1 (q*1) TT=some (.flat (.int .i64 v))):
  ∀ G1,G0++ [.sl false 1 1 [.flat (.int .i64 v)]]=G1→persL G1=true→DW Try.prog 188 cc ⟨[(1,.ptr [.sl false 1 nR LR,.sl false 1 n LB,.sl false 1 nR LT] 0),(2,.ref 2 0),(5,.sl false 1 n LF),(8,.own 38 n),(9,.sl false 1 m RR),(16,.ref 16 0),(102,.sl false 1 nR LR),(103,.flat (.int .i64 ((nR:Nat):Int))),(104,.flat (.int .i64 ((y:Nat):Int)))],[(2,some (.box [.flat (.slice none 0 0),.flat (.slice none 0 0),.flat (.slice none 0 0)])),(38,some (.row 3 1 n TT)),(16,some (.box [.sl false 1 nR LR,.own 111 m,.own 112 y])),(111,some (.row 4 1 m FQ)),(112,some (.row 22 1 y G0))]⟩ (Nm 188 ⟨[(1,.ptr [.sl false 1 nR LR,.sl false 1 n LB,.sl false 1 nR LT] 0),(2,.ref 2 0),(5,.sl false 1 n LF),(8,.own 38 n),(9,.sl false 1 m RR),(16,.ref 16 0),(102,.sl false 1 nR LR),(103,.flat (.int .i64 ((nR:Nat):Int))),(104,.flat (.int .i64 (((y+1):Nat):Int)))],[(2,some (.box [.flat (.slice none 0 0),.flat (.slice none 0 0),.flat (.slice none 0 0)])),(38,some (.row 3 1 n TT)),(16,some (.box [.sl false 1 nR LR,.own 111 m,.own 112 (y+1)])),(111,some (.row 4 1 m FQ)),(112,some (.row 22 1 (y+1) G1))]⟩):=by
 intro G1 hG p10
 refine DW.sel hsel (by rfl) ?_
 refine DW.walkTo 46 ?_
 refine DW.sub (aba 21 rfl Le.full) ?_
 refine DW.walk ?_
 rw [hG]
 exact Nm.mk Sub.auto
theorem y2_ (v:Nat→Int) (j:Nat):((List.range (j)).map fun p=>D.flat (.int .i64 (v p)))++ [.flat (.int .i64 (v (j)))]=((List.range (j+1)).map fun p=>D.flat (.int .i64 (v p))):=by simp [List.range_succ]
theorem zh_ (v:Nat→Int) (j:Nat):persL ((List.range (j)).map fun p=>D.flat (.int .i64 (v p)))=true:=ac_ (fun _=>rfl) _
theorem aem {cc:Code} (hsel:selC [1,1,1,1,1,1,1,1,1,0,1,2,2] m4_=some cc) (LR LB LT LF RR TT FQ G0 RW:List D) (n nR m y rl:Nat) (hn:0<n∧n≤512) (hm:m≤512) (hnR:nR≤4096) (hy:y<nR) (hrl:rl≤1000000) (p1:persL LR=true) (p2:persL LB=true) (p3:persL LT=true) (p4:persL LF=true) (p5:persL RR=true) (p6:persL TT=true) (p7:persL FQ=true) (p8:persL G0=true) (p9:persL RW=true) (hLT:partD false 1 (y*1) LT=some (.sl false 1 rl RW)) (hLR:partD false 1 (y*1) LR=some (.flat (.int .i64 ((1:Nat):Int)))) (v:Nat→Int) (hP:∀ P,P<m→ ∃ t q:Nat,partD false 1 (P*1) RR=some (.flat (.int .i64 ((t:Nat):Int)))∧t<rl∧partD false 1 (t*1) RW=some (.flat (.int .i64 ((q:Nat):Int)))∧q<n∧partD false 1 (q*1) TT=some (.flat (.int .i64 (v P)))):
  ∀ G1,G0++ [.sl false 1 m ((List.range (m)).map fun p=>D.flat (.int .i64 (v p)))]=G1→persL G1=true→DW Try.prog 188 cc ⟨[(1,.ptr [.sl false 1 nR LR,.sl false 1 n LB,.sl false 1 nR LT] 0),(2,.ref 2 0),(5,.sl false 1 n LF),(8,.own 38 n),(9,.sl false 1 m RR),(16,.ref 16 0),(102,.sl false 1 nR LR),(103,.flat (.int .i64 ((nR:Nat):Int))),(104,.flat (.int .i64 ((y:Nat):Int)))],[(2,some (.box [.flat (.slice none 0 0),.flat (.slice none 0 0),.flat (.slice none 0 0)])),(38,some (.row 3 1 n TT)),(16,some (.box [.sl false 1 nR LR,.own 111 m,.own 112 y])),(111,some (.row 4 1 m FQ)),(112,some (.row 22 1 y G0))]⟩ (Nm 188 ⟨[(1,.ptr [.sl false 1 nR LR,.sl false 1 n LB,.sl false 1 nR LT] 0),(2,.ref 2 0),(5,.sl false 1 n LF),(8,.own 38 n),(9,.sl false 1 m RR),(16,.ref 16 0),(102,.sl false 1 nR LR),(103,.flat (.int .i64 ((nR:Nat):Int))),(104,.flat (.int .i64 (((y+1):Nat):Int)))],[(2,some (.box [.flat (.slice none 0 0),.flat (.slice none 0 0),.flat (.slice none 0 0)])),(38,some (.row 3 1 n TT)),(16,some (.box [.sl false 1 nR LR,.own 111 m,.own 112 (y+1)])),(111,some (.row 4 1 m FQ)),(112,some (.row 22 1 (y+1) G1))]⟩):=by
 have pV:=zh_ v
 intro G1 hG p10
 refine DW.sel hsel (by rfl) ?_
 refine DW.walkTo 28 ?_
 refine DW.adopt 21 113 3 1 rfl rfl ?_
 refine DW.walk ?_
 refine DW.loopA (fun P:Nat=>⟨[(19,.flat (.int .i64 ((y:Nat):Int))),(21,.own 113 P),(158,.sl false 1 m RR),(159,.flat (.int .i64 ((m:Nat):Int))),(160,.flat (.int .i64 ((P:Nat):Int))),(1,.ptr [.sl false 1 nR LR,.sl false 1 n LB,.sl false 1 nR LT] 0),(2,.ref 2 0),(5,.sl false 1 n LF),(8,.own 38 n),(9,.sl false 1 m RR),(16,.ref 16 0),(102,.sl false 1 nR LR),(103,.flat (.int .i64 ((nR:Nat):Int))),(104,.flat (.int .i64 ((y:Nat):Int)))],[(2,some (.box [.flat (.slice none 0 0),.flat (.slice none 0 0),.flat (.slice none 0 0)])),(38,some (.row 3 1 n TT)),(16,some (.box [.sl false 1 nR LR,.own 111 m,.own 112 y])),(111,some (.row 4 1 m FQ)),(112,some (.row 22 1 y G0)),(113,some (.row 3 1 P ((List.range (P)).map fun p=>D.flat (.int .i64 (v p)))))]⟩) (fun P=>P≤m) (fun P=>m - P) 0 ?_ (Nat.zero_le _)
 intro P hP2
 rcases Nat.lt_or_ge P m with hlt|hge
 ·obtain⟨t,q,a1,a2,a3,a4,a5⟩:=hP P hlt
  have e1:=y2_ v P
  have w0:=pV P
  have w1:=pV (P+1)
  generalize hV1:((List.range (P+1)).map fun p=>D.flat (.int .i64 (v p)))=V1 at*
  generalize ((List.range (P)).map fun p=>D.flat (.int .i64 (v p)))=V0 at*
  clear hP pV
  refine DW.walk ?_
  rw [e1]
  exact⟨P+1,by omega,by omega,by rw [hV1];exact Sub.auto⟩
 ·obtain rfl:m=P:=by omega
  have w0:=pV m
  generalize ((List.range (m)).map fun p=>D.flat (.int .i64 (v p)))=V0 at*
  clear hP pV
  refine DW.walkTo 46 ?_
  refine DW.sub (s':=⟨[(21,.sl false 1 m V0),(19,.flat (.int .i64 ((y:Nat):Int))),(1,.ptr [.sl false 1 nR LR,.sl false 1 n LB,.sl false 1 nR LT] 0),(2,.ref 2 0),(5,.sl false 1 n LF),(8,.own 38 n),(9,.sl false 1 m RR),(16,.ref 16 0),(102,.sl false 1 nR LR),(103,.flat (.int .i64 ((nR:Nat):Int))),(104,.flat (.int .i64 ((y:Nat):Int)))],[(2,some (.box [.flat (.slice none 0 0),.flat (.slice none 0 0),.flat (.slice none 0 0)])),(38,some (.row 3 1 n TT)),(16,some (.box [.sl false 1 nR LR,.own 111 m,.own 112 y])),(111,some (.row 4 1 m FQ)),(112,some (.row 22 1 y G0))]⟩) Sub.auto ?_
  refine DW.walk ?_
  rw [hG]
  exact Nm.mk Sub.auto
theorem aej {cc:Code} (hsel:selC [1,1,1,1,1,1,1,1,1,0,1,2,2] m4_=some cc) (LR LB LT LF RR TT FQ G0 RW:List D) (n nR m y rl:Nat) (hn:0<n∧n≤512) (hm:m≤512) (hnR:nR≤4096) (hy:y<nR) (hrl:rl≤1000000) (p1:persL LR=true) (p2:persL LB=true) (p3:persL LT=true) (p4:persL LF=true) (p5:persL RR=true) (p6:persL TT=true) (p7:persL FQ=true) (p8:persL G0=true) (p9:persL RW=true) (hLT:partD false 1 (y*1) LT=some (.sl false 1 rl RW)) (hLR:partD false 1 (y*1) LR=some (.flat (.int .i64 ((2:Nat):Int)))) (v:Nat→Int) (hW:∀ w,w<m→ ∃ t:Nat,partD false 1 (w*1) RR=some (.flat (.int .i64 ((t:Nat):Int)))∧(t:Int)*(n:Int)≤300000∧t<n) (hP:∀ w u t t':Nat,w<m→u<m→partD false 1 (w*1) RR=some (.flat (.int .i64 ((t:Nat):Int)))→partD false 1 (u*1) RR=some (.flat (.int .i64 ((t':Nat):Int)))→ ∃ q:Nat,t*n+t'<rl∧partD false 1 ((t*n+t')*1) RW=some (.flat (.int .i64 ((q:Nat):Int)))∧q<n∧partD false 1 (q*1) TT=some (.flat (.int .i64 (v (w*m+u))))):
  ∀ G1,G0++ [.sl false 1 (m*m) ((List.range (m*m)).map fun p=>D.flat (.int .i64 (v p)))]=G1→persL G1=true→DW Try.prog 188 cc ⟨[(1,.ptr [.sl false 1 nR LR,.sl false 1 n LB,.sl false 1 nR LT] 0),(2,.ref 2 0),(5,.sl false 1 n LF),(8,.own 38 n),(9,.sl false 1 m RR),(16,.ref 16 0),(102,.sl false 1 nR LR),(103,.flat (.int .i64 ((nR:Nat):Int))),(104,.flat (.int .i64 ((y:Nat):Int)))],[(2,some (.box [.flat (.slice none 0 0),.flat (.slice none 0 0),.flat (.slice none 0 0)])),(38,some (.row 3 1 n TT)),(16,some (.box [.sl false 1 nR LR,.own 111 m,.own 112 y])),(111,some (.row 4 1 m FQ)),(112,some (.row 22 1 y G0))]⟩ (Nm 188 ⟨[(1,.ptr [.sl false 1 nR LR,.sl false 1 n LB,.sl false 1 nR LT] 0),(2,.ref 2 0),(5,.sl false 1 n LF),(8,.own 38 n),(9,.sl false 1 m RR),(16,.ref 16 0),(102,.sl false 1 nR LR),(103,.flat (.int .i64 ((nR:Nat):Int))),(104,.flat (.int .i64 (((y+1):Nat):Int)))],[(2,some (.box [.flat (.slice none 0 0),.flat (.slice none 0 0),.flat (.slice none 0 0)])),(38,some (.row 3 1 n TT)),(16,some (.box [.sl false 1 nR LR,.own 111 m,.own 112 (y+1)])),(111,some (.row 4 1 m FQ)),(112,some (.row 22 1 (y+1) G1))]⟩):=by
 have pV:=zh_ v
 intro G1 hG p10
 refine DW.sel hsel (by rfl) ?_
 refine DW.walkTo 28 ?_
 refine DW.adopt 21 113 3 1 rfl rfl ?_
 refine DW.walk ?_
 refine DW.loopA (fun w:Nat=>⟨[(19,.flat (.int .i64 ((y:Nat):Int))),(21,.own 113 (w*m)),(110,.sl false 1 m RR),(111,.flat (.int .i64 ((m:Nat):Int))),(112,.flat (.int .i64 ((w:Nat):Int))),(1,.ptr [.sl false 1 nR LR,.sl false 1 n LB,.sl false 1 nR LT] 0),(2,.ref 2 0),(5,.sl false 1 n LF),(8,.own 38 n),(9,.sl false 1 m RR),(16,.ref 16 0),(102,.sl false 1 nR LR),(103,.flat (.int .i64 ((nR:Nat):Int))),(104,.flat (.int .i64 ((y:Nat):Int)))],[(2,some (.box [.flat (.slice none 0 0),.flat (.slice none 0 0),.flat (.slice none 0 0)])),(38,some (.row 3 1 n TT)),(16,some (.box [.sl false 1 nR LR,.own 111 m,.own 112 y])),(111,some (.row 4 1 m FQ)),(112,some (.row 22 1 y G0)),(113,some (.row 3 1 (w*m) ((List.range (w*m)).map fun p=>D.flat (.int .i64 (v p)))))]⟩) (fun w=>w≤m) (fun w=>m - w) 0 ?_ (Nat.zero_le _) (by rw [Nat.zero_mul];exact Sub.auto)
 intro w hw2
 rcases Nat.lt_or_ge w m with hlt|hge
 ·obtain⟨t,a1,a2,a3⟩:=hW w hlt
  have w0:=pV (w*m)
  obtain⟨b,hb⟩:∃ b,w*m=b:=⟨_,rfl⟩
  have hb1:(w+1)*m=b+m:=by rw [Nat.succ_mul,hb]
  have hbm:b≤262144:=by rw [← hb];exact Nat.le_trans (Nat.mul_le_mul (show w≤512 by omega) hm) (by decide)
  rw [hb] at w0 ⊢
  generalize hV0:((List.range (b)).map fun p=>D.flat (.int .i64 (v p)))=V0 at*
  refine DW.walk ?_
  refine DW.loopA (fun u:Nat=>⟨[(25,.flat (.int .i64 ((t:Nat):Int))),(116,.sl false 1 m RR),(117,.flat (.int .i64 ((m:Nat):Int))),(118,.flat (.int .i64 ((u:Nat):Int))),(19,.flat (.int .i64 ((y:Nat):Int))),(21,.own 113 (b+u)),(110,.sl false 1 m RR),(111,.flat (.int .i64 ((m:Nat):Int))),(112,.flat (.int .i64 ((w:Nat):Int))),(1,.ptr [.sl false 1 nR LR,.sl false 1 n LB,.sl false 1 nR LT] 0),(2,.ref 2 0),(5,.sl false 1 n LF),(8,.own 38 n),(9,.sl false 1 m RR),(16,.ref 16 0),(102,.sl false 1 nR LR),(103,.flat (.int .i64 ((nR:Nat):Int))),(104,.flat (.int .i64 ((y:Nat):Int)))],[(2,some (.box [.flat (.slice none 0 0),.flat (.slice none 0 0),.flat (.slice none 0 0)])),(38,some (.row 3 1 n TT)),(16,some (.box [.sl false 1 nR LR,.own 111 m,.own 112 y])),(111,some (.row 4 1 m FQ)),(112,some (.row 22 1 y G0)),(113,some (.row 3 1 (b+u) ((List.range (b+u)).map fun p=>D.flat (.int .i64 (v p)))))]⟩) (fun u=>u≤m) (fun u=>m - u) 0 ?_ (Nat.zero_le _) (by rw [Nat.add_zero,hV0];exact Sub.auto)
  intro u hu2
  rcases Nat.lt_or_ge u m with hul|hug
  ·obtain⟨t',c1,c2,c3⟩:=hW u hul
   obtain⟨q,d1,d2,d3,d4⟩:=hP w u t t' hlt hul a1 c1
   rw [hb] at d4
   have e1:=y2_ v (b+u)
   have w1:=pV (b+u)
   have w2:=pV (b+u+1)
   generalize hV1:((List.range (b+u+1)).map fun p=>D.flat (.int .i64 (v p)))=V1 at*
   generalize ((List.range (b+u)).map fun p=>D.flat (.int .i64 (v p)))=VX at*
   clear hP pV hW
   refine DW.walk ?_
   rw [e1]
   exact⟨u+1,by omega,by omega,by rw [show b+(u+1)=b+u+1 from rfl,hV1];exact Sub.auto⟩
  ·obtain rfl:m=u:=by omega
   have w1:=pV (b+m)
   generalize hVX:((List.range (b+m)).map fun p=>D.flat (.int .i64 (v p)))=VX at*
   clear hP pV hW
   refine DW.walk ?_
   exact⟨w+1,by omega,by omega,by rw [hb1,hVX];exact Sub.auto⟩
 ·obtain rfl:m=w:=by omega
  have w0:=pV (m*m)
  have hbm:m*m≤262144:=Nat.le_trans (Nat.mul_le_mul hm hm) (by decide)
  obtain⟨b,hb⟩:∃ b,m*m=b:=⟨_,rfl⟩
  rw [hb] at w0 hbm hG ⊢
  generalize ((List.range (b)).map fun p=>D.flat (.int .i64 (v p)))=V0 at*
  clear hP pV hW
  refine DW.walkTo 46 ?_
  refine DW.sub (s':=⟨[(21,.sl false 1 b V0),(19,.flat (.int .i64 ((y:Nat):Int))),(1,.ptr [.sl false 1 nR LR,.sl false 1 n LB,.sl false 1 nR LT] 0),(2,.ref 2 0),(5,.sl false 1 n LF),(8,.own 38 n),(9,.sl false 1 m RR),(16,.ref 16 0),(102,.sl false 1 nR LR),(103,.flat (.int .i64 ((nR:Nat):Int))),(104,.flat (.int .i64 ((y:Nat):Int)))],[(2,some (.box [.flat (.slice none 0 0),.flat (.slice none 0 0),.flat (.slice none 0 0)])),(38,some (.row 3 1 n TT)),(16,some (.box [.sl false 1 nR LR,.own 111 m,.own 112 y])),(111,some (.row 4 1 m FQ)),(112,some (.row 22 1 y G0))]⟩) Sub.auto ?_
  refine DW.walk ?_
  rw [hG]
  exact Nm.mk Sub.auto
end Go.Proofs.Ytichhfbkhnimmaa
