/- Least sizes: rounds. No condition. -/
import Derived.Test.YtichhfbkhnimmaaVSZ2
set_option linter.unusedSimpArgs false
set_option linter.unusedVariables false
set_option maxHeartbeats 4000000
set_option maxRecDepth 8000
namespace Go.Proofs.Ytichhfbkhnimmaa
open Go Go.RowKit Go.PP Go.Dm Go.Rt Go.Mn
theorem zi_ {cc:Code} (hsel:selC [1,1,1,0,1,2,2,1,2,1,1,2,2] gm_=some cc) (A:Au) (hok:AuOk A) (sz0 sz:Nat→Nat) (b:Bool) (y:Nat) (hy:y<A.r.length) (h:Sst A sz0 sz b y 0):
  DW Try.prog 76 cc ⟨[(1,.ref 1 0),(3,.flat (.int .i64 ((A.f.length:Nat):Int))),(4,.bsl 13107200007 0 A.f.length A.f.length),(5,.flat (.bool b)),(19,.sl false 1 A.r.length (A.r.map fun x=>D.flat (.int .i64 x))),(20,.flat (.int .i64 ((A.r.length:Nat):Int))),(21,.flat (.int .i64 ((y:Nat):Int)))],[(1,some (.box [.sl false 1 A.r.length (A.r.map fun x=>D.flat (.int .i64 x)),.sl false 1 A.f.length (A.f.map fun x=>D.flat (.bool x)),.sl false 1 A.to.length (aj_ A.to)])),(13107200007,some (.box ((szL A.f.length sz).map fun x=>D.flat (.int .i64 x))))]⟩ (fun e s=> ∃ (sz':Nat→Nat) (b':Bool),Sst A sz0 sz' b' (y+1) 0∧Nm 76 ⟨[(1,.ref 1 0),(3,.flat (.int .i64 ((A.f.length:Nat):Int))),(4,.bsl 13107200007 0 A.f.length A.f.length),(5,.flat (.bool b')),(19,.sl false 1 A.r.length (A.r.map fun x=>D.flat (.int .i64 x))),(20,.flat (.int .i64 ((A.r.length:Nat):Int))),(21,.flat (.int .i64 (((y+1):Nat):Int)))],[(1,some (.box [.sl false 1 A.r.length (A.r.map fun x=>D.flat (.int .i64 x)),.sl false 1 A.f.length (A.f.map fun x=>D.flat (.bool x)),.sl false 1 A.to.length (aj_ A.to)])),(13107200007,some (.box ((szL A.f.length sz').map fun x=>D.flat (.int .i64 x))))]⟩ e s):=by
 obtain⟨r1,r2⟩:=bg_ hok hy
 obtain⟨w1,w2,w3⟩:=bq_ hok hy
 have hrk:=an_ r2
 have hrw:=dc_ w1
 have hrl:(rowN A y).length≤1000000:=(bj_ hok).l _ (List.mem_of_getElem? w1)
 have hlo:=hok.lo
 have hnn:=hok.hi
 have hll:=hok.alpha.hi
 have hTl:=hok.len
 have hst:=fun (cc:Code) (hs:selC [1,1,1,0,1,2,2,1,2,1,1,2,2,1,1,0,2,1,1,2,2] gm_=some cc) (sz:Nat→Nat) hle p m hp=>x8_ hs A hok sz hle y p m hy hp
 have hgo:=fun (sz:Nat→Nat) (b:Bool) p (h:Sst A sz0 sz b y p) hp=>wh_ hok h hy hp
 have hle:=fun (sz:Nat→Nat) (b:Bool) p (h:Sst A sz0 sz b y p)=>h.in_.le
 have hend:=fun (sz:Nat→Nat) (b:Bool) (h:Sst A sz0 sz b y (rowN A y).length)=>h.row
 have q1:=ab_ A.r
 have q2:=al_ A.f
 have q3:=ao_ A.to
 have q4:=ab_ (rowN A y)
 have qs:=fun sz=>ab_ (szL A.f.length sz)
 have ks:=fun sz=>am_ (szL A.f.length sz)
 generalize hRK:rankN A y=rk at*
 generalize hRW:((rowN A y).map fun x=>D.flat (.int .i64 x))=RW at*
 generalize hrle:(rowN A y).length=rl at*
 generalize hLR:(A.r.map fun x=>D.flat (.int .i64 x))=LR at*
 generalize hLB:(A.f.map fun x=>D.flat (.bool x))=LB at*
 generalize hLT:aj_ A.to=LT at*
 generalize hlr:A.r.length=lr at*
 generalize hn:A.f.length=n at*
 generalize hlt:A.to.length=lt at*
 clear hRK hRW hrle w1 w2 w3 r2
 have q0:=qs sz
 have k0:=ks sz
 refine DW.sel hsel (by rfl) ?_
 generalize hC:((szL n sz).map fun x=>D.flat (.int .i64 x))=C0 at*
 refine DW.walk ?_
 rw [← hC]
 clear hC
 refine DW.loopA (fun x:Nat × (Nat→Nat) × Bool=>⟨[(1,.ref 1 0),(3,.flat (.int .i64 ((n:Nat):Int))),(4,.bsl 13107200007 0 n n),(5,.flat (.bool x.2.2)),(6,.flat (.int .i64 ((y:Nat):Int))),(7,.flat (.int .i64 ((rk:Nat):Int))),(19,.sl false 1 lr LR),(20,.flat (.int .i64 ((lr:Nat):Int))),(21,.flat (.int .i64 ((y:Nat):Int))),(30,.sl false 1 rl RW),(31,.flat (.int .i64 ((rl:Nat):Int))),(32,.flat (.int .i64 ((x.1:Nat):Int)))],[(1,some (.box [.sl false 1 lr LR,.sl false 1 n LB,.sl false 1 lt LT])),(13107200007,some (.box ((szL n x.2.1).map fun x=>D.flat (.int .i64 x))))]⟩) (fun x=>x.1≤rl∧Sst A sz0 x.2.1 x.2.2 y x.1) (fun x=>rl - x.1) (0,sz,b) ?_ ⟨Nat.zero_le _,h⟩ (by have q9:=qs sz;have k9:=ks sz;show Sub _ _ ⟨[(1,.ref 1 0),(3,.flat (.int .i64 ((n:Nat):Int))),(4,.bsl 13107200007 0 n n),(5,.flat (.bool b)),(6,.flat (.int .i64 ((y:Nat):Int))),(7,.flat (.int .i64 ((rk:Nat):Int))),(19,.sl false 1 lr LR),(20,.flat (.int .i64 ((lr:Nat):Int))),(21,.flat (.int .i64 ((y:Nat):Int))),(30,.sl false 1 rl RW),(31,.flat (.int .i64 ((rl:Nat):Int))),(32,.flat (.int .i64 ((0:Nat):Int)))],[(1,some (.box [.sl false 1 lr LR,.sl false 1 n LB,.sl false 1 lt LT])),(13107200007,some (.box ((szL n sz).map fun x=>D.flat (.int .i64 x))))]⟩;generalize ((szL n sz).map fun x=>D.flat (.int .i64 x))=C0 at *;exact Sub.auto)
 rintro⟨p,sz1,b1⟩ ⟨hp,h1⟩
 simp only at hp h1
 rcases Nat.lt_or_ge p rl with hlt2|hge
 ·refine (hst _ (by rfl) sz1 (hle _ _ _ h1) p b1 hlt2).mono ?_
  rintro e s' ⟨rfl,hsub⟩
  exact⟨(p+1,_,_),⟨by show p+1≤rl;omega,hgo _ _ _ h1 hlt2⟩,by show rl - (p+1)<rl - p;omega,hsub⟩
 ·obtain rfl:p=rl:=by omega
  have h2:=hend _ _ h1
  have q5:=qs sz1
  have k5:=ks sz1
  show DW _ _ _ ⟨[(1,.ref 1 0),(3,.flat (.int .i64 ((n:Nat):Int))),(4,.bsl 13107200007 0 n n),(5,.flat (.bool b1)),(6,.flat (.int .i64 ((y:Nat):Int))),(7,.flat (.int .i64 ((rk:Nat):Int))),(19,.sl false 1 lr LR),(20,.flat (.int .i64 ((lr:Nat):Int))),(21,.flat (.int .i64 ((y:Nat):Int))),(30,.sl false 1 p RW),(31,.flat (.int .i64 ((p:Nat):Int))),(32,.flat (.int .i64 ((p:Nat):Int)))],[(1,some (.box [.sl false 1 lr LR,.sl false 1 n LB,.sl false 1 lt LT])),(13107200007,some (.box ((szL n sz1).map fun x=>D.flat (.int .i64 x))))]⟩ _
  clear hst hgo hle hend h1 h
  generalize hC1:((szL n sz1).map fun x=>D.flat (.int .i64 x))=C1 at*
  refine DW.walk ?_
  refine⟨sz1,b1,h2,?_⟩
  rw [hC1]
  exact Nm.mk Sub.auto
theorem u9_ {cc:Code} (hsel:selC [1,1,1,0,1,2,2] gm_=some cc) (A:Au) (hok:AuOk A) (sz:Nat→Nat) (h:SizeIn A sz):
  DW Try.prog 76 cc ⟨[(1,.ref 1 0),(3,.flat (.int .i64 ((A.f.length:Nat):Int))),(4,.bsl 13107200007 0 A.f.length A.f.length),(5,.flat (.bool true))],[(1,some (.box [.sl false 1 A.r.length (A.r.map fun x=>D.flat (.int .i64 x)),.sl false 1 A.f.length (A.f.map fun x=>D.flat (.bool x)),.sl false 1 A.to.length (aj_ A.to)])),(13107200007,some (.box ((szL A.f.length sz).map fun x=>D.flat (.int .i64 x))))]⟩ (fun e s=> ∃ (sz':Nat→Nat) (b':Bool),Sst A sz sz' b' A.r.length 0∧Nm 76 ⟨[(1,.ref 1 0),(3,.flat (.int .i64 ((A.f.length:Nat):Int))),(4,.bsl 13107200007 0 A.f.length A.f.length),(5,.flat (.bool b'))],[(1,some (.box [.sl false 1 A.r.length (A.r.map fun x=>D.flat (.int .i64 x)),.sl false 1 A.f.length (A.f.map fun x=>D.flat (.bool x)),.sl false 1 A.to.length (aj_ A.to)])),(13107200007,some (.box ((szL A.f.length sz').map fun x=>D.flat (.int .i64 x))))]⟩ e s):=by
 have hrow:=fun (cc:Code) (hs:selC [1,1,1,0,1,2,2,1,2,1,1,2,2] gm_=some cc) (sz1:Nat→Nat) b y hy h=>zi_ hs A hok sz sz1 b y hy h
 have h0:=Sst.init h
 have hlo:=hok.lo
 have hnn:=hok.hi
 have hll:=hok.alpha.hi
 have q1:=ab_ A.r
 have q2:=al_ A.f
 have q3:=ao_ A.to
 have qs:=fun sz=>ab_ (szL A.f.length sz)
 have ks:=fun sz=>am_ (szL A.f.length sz)
 generalize hLR:(A.r.map fun x=>D.flat (.int .i64 x))=LR at*
 generalize hLB:(A.f.map fun x=>D.flat (.bool x))=LB at*
 generalize hLT:aj_ A.to=LT at*
 generalize hlr:A.r.length=lr at*
 generalize hn:A.f.length=n at*
 generalize hlt:A.to.length=lt at*
 have q0:=qs sz
 have k0:=ks sz
 refine DW.sel hsel (by rfl) ?_
 generalize hC:((szL n sz).map fun x=>D.flat (.int .i64 x))=C0 at*
 refine DW.walk ?_
 rw [← hC]
 clear hC
 refine DW.loopA (fun x:Nat × (Nat→Nat) × Bool=>⟨[(1,.ref 1 0),(3,.flat (.int .i64 ((n:Nat):Int))),(4,.bsl 13107200007 0 n n),(5,.flat (.bool x.2.2)),(19,.sl false 1 lr LR),(20,.flat (.int .i64 ((lr:Nat):Int))),(21,.flat (.int .i64 ((x.1:Nat):Int)))],[(1,some (.box [.sl false 1 lr LR,.sl false 1 n LB,.sl false 1 lt LT])),(13107200007,some (.box ((szL n x.2.1).map fun x=>D.flat (.int .i64 x))))]⟩) (fun x=>x.1≤lr∧Sst A sz x.2.1 x.2.2 x.1 0) (fun x=>lr - x.1) (0,sz,false) ?_ ⟨Nat.zero_le _,h0⟩ (by have q9:=qs sz;have k9:=ks sz;show Sub _ _ ⟨[(1,.ref 1 0),(3,.flat (.int .i64 ((n:Nat):Int))),(4,.bsl 13107200007 0 n n),(5,.flat (.bool false)),(19,.sl false 1 lr LR),(20,.flat (.int .i64 ((lr:Nat):Int))),(21,.flat (.int .i64 ((0:Nat):Int)))],[(1,some (.box [.sl false 1 lr LR,.sl false 1 n LB,.sl false 1 lt LT])),(13107200007,some (.box ((szL n sz).map fun x=>D.flat (.int .i64 x))))]⟩;generalize ((szL n sz).map fun x=>D.flat (.int .i64 x))=C0 at *;exact Sub.auto)
 rintro⟨y,sz1,b1⟩ ⟨hy,h1⟩
 simp only at hy h1
 rcases Nat.lt_or_ge y lr with hlt2|hge
 ·refine (hrow _ (by rfl) sz1 b1 y hlt2 h1).mono ?_
  rintro e s' ⟨sz2,b2,h2,rfl,hsub⟩
  exact⟨(y+1,sz2,b2),⟨by show y+1≤lr;omega,h2⟩,by show lr - (y+1)<lr - y;omega,hsub⟩
 ·obtain rfl:y=lr:=by omega
  have q5:=qs sz1
  have k5:=ks sz1
  show DW _ _ _ ⟨[(1,.ref 1 0),(3,.flat (.int .i64 ((n:Nat):Int))),(4,.bsl 13107200007 0 n n),(5,.flat (.bool b1)),(19,.sl false 1 y LR),(20,.flat (.int .i64 ((y:Nat):Int))),(21,.flat (.int .i64 ((y:Nat):Int)))],[(1,some (.box [.sl false 1 y LR,.sl false 1 n LB,.sl false 1 lt LT])),(13107200007,some (.box ((szL n sz1).map fun x=>D.flat (.int .i64 x))))]⟩ _
  clear hrow
  generalize hC1:((szL n sz1).map fun x=>D.flat (.int .i64 x))=C1 at*
  refine DW.walk ?_
  refine⟨sz1,b1,h1,?_⟩
  rw [hC1]
  exact Nm.mk Sub.auto
theorem xt_ (A:Au) (hk:chk A=0) (d:D) (hd:∀ sz,SizeOk A sz→d= .sl false 1 A.f.length ((szL A.f.length sz).map fun x=>D.flat (.int .i64 x))):DFun Try.prog 79 [auD A] d:=by
 have hok:=a6_ hk
 have hlo:=hok.lo
 have hnn:=hok.hi
 have hrep:=h2_ (args':=[.sl true 1 1 [.flat (.int .i64 4097)],.flat (.int .i64 ((A.f.length:Nat):Int))]) (pp_ 4097 A.f.length hlo (by omega)) ⟨Le.full,Le.refl _,trivial⟩ (Le.refl _)
 have hrd:=fun (cc:Code) (hs:selC [1,1,1,0,1,2,2] gm_=some cc) (sz:Nat→Nat) h=>u9_ hs A hok sz h
 have h0:SizeIn A (fun _=>4097):=⟨fun _ _=>Nat.le_refl _,fun _ _ h=>absurd rfl h⟩
 have hc0:List.replicate A.f.length (D.flat (.int .i64 4097))=((szL A.f.length (fun _=>4097)).map fun x=>D.flat (.int .i64 x)):=by
  unfold szL
  rw [List.map_map]
  exact (show (List.range A.f.length).map (fun _=>D.flat (.int .i64 4097))=_ from by rw [List.map_const',List.length_range]).symm
 rw [hc0] at hrep
 have hfix:=fun (sz0 sz:Nat→Nat) (h:Sst A sz0 sz false A.r.length 0)=>SizeOk.of hok h.in_ h.fix
 have q1:=ab_ A.r
 have q2:=al_ A.f
 have q3:=ao_ A.to
 have qs:=fun sz=>ab_ (szL A.f.length sz)
 have ks:=fun sz=>am_ (szL A.f.length sz)
 have ls:=fun sz=>ex_ A.f.length sz
 rw [a1_ A]
 generalize hLR:(A.r.map fun x=>D.flat (.int .i64 x))=LR at*
 generalize hLB:(A.f.map fun x=>D.flat (.bool x))=LB at*
 generalize hLT:aj_ A.to=LT at*
 generalize hlr:A.r.length=lr at*
 generalize hn:A.f.length=n at*
 generalize hlt:A.to.length=lt at*
 clear hc0 hLR hLB hLT
 have q0:=qs (fun _=>4097)
 have k0:=ks (fun _=>4097)
 refine DFun.enterA Try.func79 Try.ntmps79 ?_
 generalize hC:((szL n (fun _=>4097)).map fun x=>D.flat (.int .i64 x))=C0 at*
 refine DW.walk ?_
 rw [← hC]
 clear hC
 refine DW.loopA (fun x:(Nat→Nat) × Bool=>⟨[(1,.ref 1 0),(3,.flat (.int .i64 ((n:Nat):Int))),(4,.bsl 13107200007 0 n n),(5,.flat (.bool x.2))],[(1,some (.box [.sl false 1 lr LR,.sl false 1 n LB,.sl false 1 lt LT])),(13107200007,some (.box ((szL n x.1).map fun x=>D.flat (.int .i64 x))))]⟩) (fun x=>SizeIn A x.1∧(x.2=false→SizeOk A x.1)) (fun x=>totS n x.1*2+(if x.2 then 1 else 0)) (fun _=>4097,true) ?_ ⟨h0,(fun h=>by cases h)⟩ (by have q9:=qs (fun _=>4097);have k9:=ks (fun _=>4097);show Sub _ _ ⟨[(1,.ref 1 0),(3,.flat (.int .i64 ((n:Nat):Int))),(4,.bsl 13107200007 0 n n),(5,.flat (.bool true))],[(1,some (.box [.sl false 1 lr LR,.sl false 1 n LB,.sl false 1 lt LT])),(13107200007,some (.box ((szL n (fun _=>4097)).map fun x=>D.flat (.int .i64 x))))]⟩;generalize ((szL n (fun _=>4097)).map fun x=>D.flat (.int .i64 x))=C0 at *;exact Sub.auto)
 rintro⟨sz,b⟩ ⟨h1,h2⟩
 simp only at h1 h2
 cases b with
 |true   =>
  refine (hrd _ (by rfl) sz h1).mono ?_
  rintro e s' ⟨sz2,b2,h3,rfl,hsub⟩
  refine⟨(sz2,b2),⟨h3.in_,fun hb=>?_⟩,?_,hsub⟩
  ·simp only at hb
   subst hb
   rw [← hlr] at h3
   exact hfix _ _ (by rw [hlr] at *;exact h3)
  ·cases b2 with
   |    true=>
        have:=h3.less rfl
        rw [hn] at this
        show totS n sz2*2+1<totS n sz*2+1
        omega
   |    false=>
        have:=(h3.same rfl).1
        show totS n sz2*2+0<totS n sz*2+1
        rw [this];omega
 |false=>
  have h3:=hd sz (h2 rfl)
  subst h3
  have p0:=qs sz
  have k5:=ks sz
  have hl:=ls sz
  have hl2:((szL n sz).map fun x=>D.flat (.int .i64 x)).length=n:=by rw [List.length_map];exact hl
  have hdt:(((szL n sz).map fun x=>D.flat (.int .i64 x)).drop 0).take n=((szL n sz).map fun x=>D.flat (.int .i64 x)):=by rw [List.drop_zero];exact List.take_of_length_le (by omega)
  show DW _ _ _ ⟨[(1,.ref 1 0),(3,.flat (.int .i64 ((n:Nat):Int))),(4,.bsl 13107200007 0 n n),(5,.flat (.bool false))],[(1,some (.box [.sl false 1 lr LR,.sl false 1 n LB,.sl false 1 lt LT])),(13107200007,some (.box ((szL n sz).map fun x=>D.flat (.int .i64 x))))]⟩ _
  clear hrd hfix qs ks hd h1 h2
  generalize ((szL n sz).map fun x=>D.flat (.int .i64 x))=F1 at*
  refine DW.walk ?_
  exact⟨.inr rfl,ResOk.one [(13107200007,some (.box F1))] rfl rfl ⟨rfl,trivial⟩ (Vw.le (Vw.bslA (.head _) (VwL.pers p0) (by omega) (Nat.le_refl _) (by omega) k5) (Le.of_eq (by rw [hdt])))⟩
end Go.Proofs.Ytichhfbkhnimmaa
