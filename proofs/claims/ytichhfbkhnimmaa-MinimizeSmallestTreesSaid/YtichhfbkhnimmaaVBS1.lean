/- The reference: a symbol of rank 1. No condition. -/
import Derived.Test.YtichhfbkhnimmaaVBS0
set_option linter.unusedSimpArgs false
set_option linter.unusedVariables false
set_option maxHeartbeats 4000000
set_option maxRecDepth 8000
namespace Go.Proofs.Ytichhfbkhnimmaa
open Go Go.RowKit Go.PP Go.Dm Go.Rt Go.Mn
theorem aah {cc:Code} (hsel:selC [1,1,1,0,1,2,2,1,2,1,1,2,2] hd_=some cc) (A:Au) (hok:AuOk A) (T0:List Tr) (I0:List Bool) (y:Nat) (hy:y<A.r.length) (hk:rankN A y=1) (TL:List Tr) (IS:List Bool) (b:Bool) (h:RSt A T0 I0 TL IS b y 0):
  DW Try.prog 134 cc ⟨[(1,.ref 1 0),(4,.flat (.int .i64 ((A.f.length:Nat):Int))),(5,.own 1717986918400005 A.f.length),(6,.own 1717986918400006 A.f.length),(7,.flat (.bool b)),(8,.flat (.int .i64 ((y:Nat):Int)))],[(1,some (.box [.sl false 1 A.r.length (A.r.map fun x=>D.flat (.int .i64 x)),.sl false 1 A.f.length (A.f.map fun x=>D.flat (.bool x)),.sl false 1 A.to.length (aj_ A.to)])),(1717986918400005,some (.row 74 2 A.f.length (ae_ TL))),(1717986918400006,some (.row 4 1 A.f.length (bC IS)))]⟩ (fun e s'=> ∃ (T1:List Tr) (I1:List Bool) (b1:Bool),RSt A T0 I0 T1 I1 b1 (y+1) 0∧Nm 134 ⟨[(1,.ref 1 0),(4,.flat (.int .i64 ((A.f.length:Nat):Int))),(5,.own 1717986918400005 A.f.length),(6,.own 1717986918400006 A.f.length),(7,.flat (.bool b1)),(8,.flat (.int .i64 (((y+1):Nat):Int)))],[(1,some (.box [.sl false 1 A.r.length (A.r.map fun x=>D.flat (.int .i64 x)),.sl false 1 A.f.length (A.f.map fun x=>D.flat (.bool x)),.sl false 1 A.to.length (aj_ A.to)])),(1717986918400005,some (.row 74 2 A.f.length (ae_ T1))),(1717986918400006,some (.row 4 1 A.f.length (bC I1)))]⟩ e s'):=by
 obtain⟨r1,r2⟩:=bg_ hok hy
 obtain⟨w1,w2,w3⟩:=bq_ hok hy
 have hrk:=an_ r2
 have hrw:=dc_ w1
 have hrl:(rowN A y).length≤1000000:=(bj_ hok).l _ (List.mem_of_getElem? w1)
 have hlo:=hok.lo
 have hnn:=hok.hi
 have hll:=hok.alpha.hi
 have hTl:=hok.len
 have q1:=ab_ A.r
 have q2:=al_ A.f
 have q3:=ao_ A.to
 have q4:=ab_ (rowN A y)
 have pT:=ah_
 have pI:∀ l:List Bool,persL (bC l)=true:=al_
 rw [hk] at hrk w2
 have hrn:(rowN A y).length=A.f.length:=by rw [w2,Nat.pow_one]
 have hsu:∀ p,p<A.f.length→partD false 1 (p*1) ((rowN A y).map fun x=>D.flat (.int .i64 x))=some (.flat (.int .i64 (((succN A y p):Nat):Int)))∧succN A y p<A.f.length:=fun p hp=>by
  have h1:=List.getElem?_eq_getElem (show p<(rowN A y).length by omega)
  obtain⟨h2,h3⟩:=w3 p _ h1
  exact⟨an_ (by rw [h1,h2]),h3⟩
 have hops:∀ p,opsN A.f.length (rankN A y) p=[p]:=fun p=>by rw [hk];rfl
 have hskip:=fun (TL:List Tr) (IS:List Bool) (b:Bool) (p:Nat) (h:RSt A T0 I0 TL IS b y p) (hf:IS.getD p false=false)=>pl_ h ⟨p,by rw [hops];simp,hf⟩
 have hstep:=fun (TL:List Tr) (IS:List Bool) (b:Bool) (p:Nat) (h:RSt A T0 I0 TL IS b y p) (hp:p<A.f.length) (ht:IS.getD p false=true) (u0:Int) (l0:List Tr) (e:TL.getD p (.node 0 [])= .node u0 l0)=>km_ hok h hy (by omega) (q:=succN A y p) rfl (by rw [hops];simpa using ht) (l:=[.node u0 l0]) (by rw [hops];simp only [List.map_cons,List.map_nil,e])
 have hbet:=fun (TL:List Tr) (IS:List Bool) (b:Bool) (p:Nat) (h:RSt A T0 I0 TL IS b y p) (hp:p<A.f.length) (u0:Int) (l0:List Tr) (e:TL.getD p (.node 0 [])= .node u0 l0)=>
  h2_ (args':=[.own 1717986918400005 A.f.length,.own 1717986918400006 A.f.length,.flat (.int .i64 (((succN A y p):Nat):Int)),.agg [.flat (.int .i64 ((y:Nat):Int)),.sl true 2 1 [.flat (.int .i64 u0),.sl false 2 l0.length (ae_ l0)]]]) (xq_ A hok TL IS h.in_ (succN A y p) (hsu p hp).2 (y:Int) [.node u0 l0] (by
   have hz:=(gp_ h.in_ hp).1
   rw [e] at hz
   rw [aq_,bz_]
   have:bm_ []=0:=by simp [bm_]
   omega)) ⟨Le.refl _,Le.refl _,Le.refl _,Le.agg ⟨Le.refl _,(by rw [gi_,a9_];exact Le.full),trivial⟩,trivial⟩ (Le.refl _)
 have hrow:=fun (TL:List Tr) (IS:List Bool) (b:Bool) (h:RSt A T0 I0 TL IS b y A.f.length)=>ns_ (by rw [hrn];exact h)
 have hlen:=fun (TL:List Tr) (IS:List Bool) (b:Bool) (p:Nat) (h:RSt A T0 I0 TL IS b y p)=>And.intro h.in_.lt h.in_.li
 have hbp:∀ (IS:List Bool) (p:Nat),p<IS.length→partD false 1 (p*1) (bC IS)=some (.flat (.bool (IS.getD p false))):=fun IS p h=>ef_ (by rw [List.getD_eq_getElem?_getD,List.getElem?_eq_getElem h];rfl)
 rw [hrn] at hrw
 clear w1 w2 w3 r2 hk hops hrl hrn hok
 generalize succN A y=su at*
 generalize ((rowN A y).map fun x=>D.flat (.int .i64 x))=RW at*
 generalize (A.r.map fun x=>D.flat (.int .i64 x))=LR at*
 generalize (A.f.map fun x=>D.flat (.bool x))=LB at*
 generalize aj_ A.to=LT at*
 generalize A.r.length=lr at*
 generalize A.f.length=n at*
 generalize A.to.length=lt at*
 refine DW.sel hsel (by rfl) ?_
 have p3:=pT TL
 have p4:=pI IS
 generalize hKK:ae_ TL=K0 at*
 generalize hBB:bC IS=B0 at*
 refine DW.walk ?_
 rw [← hKK,← hBB]
 clear hKK hBB
 refine DW.loopA (fun x:Nat × List Tr × List Bool × Bool=>⟨[(1,.ref 1 0),(4,.flat (.int .i64 ((n:Nat):Int))),(5,.own 1717986918400005 n),(6,.own 1717986918400006 n),(7,.flat (.bool x.2.2.2)),(8,.flat (.int .i64 ((y:Nat):Int))),(9,.flat (.int .i64 ((x.1:Nat):Int)))],[(1,some (.box [.sl false 1 lr LR,.sl false 1 n LB,.sl false 1 lt LT])),(1717986918400005,some (.row 74 2 n (ae_ x.2.1))),(1717986918400006,some (.row 4 1 n (bC x.2.2.1)))]⟩) (fun x=>x.1≤n∧RSt A T0 I0 x.2.1 x.2.2.1 x.2.2.2 y x.1) (fun x=>n - x.1) (0,TL,IS,b) ?_ ⟨Nat.zero_le _,h⟩ (by have z1:=pT TL;have z2:=pI IS;show Sub _ _ ⟨[(1,.ref 1 0),(4,.flat (.int .i64 ((n:Nat):Int))),(5,.own 1717986918400005 n),(6,.own 1717986918400006 n),(7,.flat (.bool b)),(8,.flat (.int .i64 ((y:Nat):Int))),(9,.flat (.int .i64 ((0:Nat):Int)))],[(1,some (.box [.sl false 1 lr LR,.sl false 1 n LB,.sl false 1 lt LT])),(1717986918400005,some (.row 74 2 n (ae_ TL))),(1717986918400006,some (.row 4 1 n (bC IS)))]⟩;generalize ae_ TL=K0 at *;generalize bC IS=B0 at *;exact Sub.auto)
 rintro⟨p,T1,I1,b1⟩ ⟨hp,h1⟩
 simp only at hp h1
 obtain⟨t1,t2⟩:=hlen _ _ _ _ h1
 have z1:=pT T1
 have z2:=pI I1
 show DW _ _ _ ⟨[(1,.ref 1 0),(4,.flat (.int .i64 ((n:Nat):Int))),(5,.own 1717986918400005 n),(6,.own 1717986918400006 n),(7,.flat (.bool b1)),(8,.flat (.int .i64 ((y:Nat):Int))),(9,.flat (.int .i64 ((p:Nat):Int)))],[(1,some (.box [.sl false 1 lr LR,.sl false 1 n LB,.sl false 1 lt LT])),(1717986918400005,some (.row 74 2 n (ae_ T1))),(1717986918400006,some (.row 4 1 n (bC I1)))]⟩ _
 rcases Nat.lt_or_ge p n with hlt|hge
 ·have   hbI:=hbp I1 p (by omega)
  obtain⟨s1,s2⟩:=hsu p hlt
  obtain⟨u0,l0,e0,p0⟩:=cb_ (show p<T1.length by omega)
  cases hb1:I1.getD p false with
  |false=>
   have hn:=hskip _ _ _ _ h1 hb1
   rw [hb1] at hbI
   clear hskip hstep hbet hrow hlen hbp hsu
   generalize hKK:ae_ T1=K0 at*
   generalize hBB:bC I1=B0 at*
   refine DW.walk ?_
   exact⟨(p+1,T1,I1,b1),⟨by show p+1≤n;omega,hn⟩,by show n - (p+1)<n - p;omega,by show Sub _ _ ⟨[(1,.ref 1 0),(4,.flat (.int .i64 ((n:Nat):Int))),(5,.own 1717986918400005 n),(6,.own 1717986918400006 n),(7,.flat (.bool b1)),(8,.flat (.int .i64 ((y:Nat):Int))),(9,.flat (.int .i64 (((p+1):Nat):Int)))],[(1,some (.box [.sl false 1 lr LR,.sl false 1 n LB,.sl false 1 lt LT])),(1717986918400005,some (.row 74 2 n (ae_ T1))),(1717986918400006,some (.row 4 1 n (bC I1)))]⟩;rw [hKK,hBB];exact Sub.auto⟩
  |true  =>
   have hn:=hstep _ _ _ _ h1 hlt hb1 u0 l0 e0
   have hbe:=hbet _ _ _ _ h1 hlt u0 l0 e0
   have z0:=pT l0
   rw [hb1] at hbI
   have hlt2:su p=su p:=rfl
   generalize su p=q at*
   have z3:=pT (if bet T1 I1 q (.node (y:Int) [.node u0 l0]) then T1.set q (.node (y:Int) [.node u0 l0]) else T1)
   have z4:=pI (if bet T1 I1 q (.node (y:Int) [.node u0 l0]) then I1.set q true else I1)
   clear hskip hstep hbet hrow hlen hbp hsu
   generalize hTN:(if bet T1 I1 q (.node (y:Int) [.node u0 l0]) then T1.set q (.node (y:Int) [.node u0 l0]) else T1)=TN at*
   generalize hIN:(if bet T1 I1 q (.node (y:Int) [.node u0 l0]) then I1.set q true else I1)=IN at*
   generalize bet T1 I1 q (.node (y:Int) [.node u0 l0])=r at*
   generalize hKN:ae_ TN=KN at*
   generalize hBN:bC IN=BN at*
   generalize ae_ T1=K0 at*
   generalize bC I1=B0 at*
   generalize ae_ l0=KL at*
   generalize l0.length=ll at*
   clear hTN hIN
   cases r
   all_goals
        simp only [Bool.false_or,Bool.true_or] at hn
        refine DW.walk ?_
        exact⟨(p+1,TN,IN,_),⟨by show p+1≤n;omega,hn⟩,by show n - (p+1)<n - p;omega,by show Sub _ _ ⟨[(1,.ref 1 0),(4,.flat (.int .i64 ((n:Nat):Int))),(5,.own 1717986918400005 n),(6,.own 1717986918400006 n),(7,.flat (.bool _)),(8,.flat (.int .i64 ((y:Nat):Int))),(9,.flat (.int .i64 (((p+1):Nat):Int)))],[(1,some (.box [.sl false 1 lr LR,.sl false 1 n LB,.sl false 1 lt LT])),(1717986918400005,some (.row 74 2 n (ae_ TN))),(1717986918400006,some (.row 4 1 n (bC IN)))]⟩;rw [hKN,hBN];exact Sub.auto⟩
 ·obtain rfl:n=p:=by omega
  have hn:=hrow _ _ _ h1
  clear hskip hstep hbet hrow hlen hbp hsu
  generalize hKK:ae_ T1=K0 at*
  generalize hBB:bC I1=B0 at*
  refine DW.walk ?_
  refine⟨T1,I1,b1,hn,?_⟩
  rw [hKK,hBB]
  exact Nm.mk Sub.auto
end Go.Proofs.Ytichhfbkhnimmaa
