/- The reference: a symbol of rank 2. No condition. -/
import Derived.Test.YtichhfbkhnimmaaVBS0
set_option linter.unusedSimpArgs false
set_option linter.unusedVariables false
set_option maxHeartbeats 4000000
set_option maxRecDepth 8000
namespace Go.Proofs.Ytichhfbkhnimmaa
open Go Go.RowKit Go.PP Go.Dm Go.Rt Go.Mn
theorem adc {cc:Code} (hsel:selC [1,1,1,0,1,2,2,1,2,1,1,2,2] hd_=some cc) (A:Au) (hok:AuOk A) (T0:List Tr) (I0:List Bool) (y:Nat) (hy:y<A.r.length) (hk:rankN A y=2):∀ (TL:List Tr) (IS:List Bool) (b:Bool) (p q:Nat),RSt A T0 I0 TL IS b y (p*A.f.length+q)→p<A.f.length→q<A.f.length→
  (IS.getD p false=false∨IS.getD q false=false→RSt A T0 I0 TL IS b y (p*A.f.length+(q+1)))∧
  ∃ s:Nat,partD false 1 ((p*A.f.length+q)*1) ((rowN A y).map fun x=>D.flat (.int .i64 x))=some (.flat (.int .i64 ((s:Nat):Int)))∧s<A.f.length∧p*A.f.length+q<(rowN A y).length∧
  ∀ (u0 u1:Int) (l0 l1:List Tr),TL.getD p (.node 0 [])= .node u0 l0→TL.getD q (.node 0 [])= .node u1 l1→IS.getD p false=true→IS.getD q false=true→
    RSt A T0 I0 (if bet TL IS s (.node (y:Int) [.node u0 l0,.node u1 l1]) then TL.set s (.node (y:Int) [.node u0 l0,.node u1 l1]) else TL) (if bet TL IS s (.node (y:Int) [.node u0 l0,.node u1 l1]) then IS.set s true else IS) (bet TL IS s (.node (y:Int) [.node u0 l0,.node u1 l1]) || b) y (p*A.f.length+(q+1))∧
    DLend Try.prog 85 [.own 1717986918400005 A.f.length,.own 1717986918400006 A.f.length,.flat (.int .i64 ((s:Nat):Int)),.agg [.flat (.int .i64 ((y:Nat):Int)),.sl true 2 2 [.flat (.int .i64 u0),.sl false 2 l0.length (ae_ l0),.flat (.int .i64 u1),.sl false 2 l1.length (ae_ l1)]]] [(1717986918400005,some (.row 74 2 A.f.length (ae_ TL))),(1717986918400006,some (.row 4 1 A.f.length (bC IS)))] [(1717986918400005,some (.row 74 2 A.f.length (ae_ (if bet TL IS s (.node (y:Int) [.node u0 l0,.node u1 l1]) then TL.set s (.node (y:Int) [.node u0 l0,.node u1 l1]) else TL)))),(1717986918400006,some (.row 4 1 A.f.length (bC (if bet TL IS s (.node (y:Int) [.node u0 l0,.node u1 l1]) then IS.set s true else IS))))] (.flat (.bool (bet TL IS s (.node (y:Int) [.node u0 l0,.node u1 l1])))):=by
 intro TL IS b p q h hp hq
 obtain⟨w1,w2,w3⟩:=bq_ hok hy
 rw [hk,Nat.pow_two] at w2
 have hn0:=hok.lo
 have ha:p*A.f.length+q<(rowN A y).length:=by
  rw [w2]
  have:=Nat.mul_le_mul_right A.f.length (show p+1≤A.f.length by omega)
  rw [Nat.succ_mul] at this
  omega
 have hdv:(p*A.f.length+q) / A.f.length=p:=by rw [Nat.mul_comm,Nat.mul_add_div (by omega),Nat.div_eq_of_lt hq];omega
 have hmd:(p*A.f.length+q) % A.f.length=q:=by rw [Nat.mul_comm,Nat.mul_add_mod,Nat.mod_eq_of_lt hq]
 have hops:opsN A.f.length (rankN A y) (p*A.f.length+q)=[p,q]:=by
  rw [hk]
  show [(p*A.f.length+q) / A.f.length,(p*A.f.length+q) % A.f.length]=_
  rw [hdv,hmd]
 have h1:=List.getElem?_eq_getElem ha
 obtain⟨h2,h3⟩:=w3 _ _ h1
 refine⟨fun hf=>?_,succN A y (p*A.f.length+q),an_ (by rw [h1,h2]),h3,ha,fun u0 u1 l0 l1 e0 e1 hi0 hi1=>⟨?_,?_⟩⟩
 ·refine (show RSt A T0 I0 TL IS b y ((p*A.f.length+q)+1) from pl_ (p:=p*A.f.length+q) h ?_)
  rw [hops]
  rcases hf with hf|hf
  ·exact⟨p,by simp,hf⟩
  ·exact⟨q,by simp,hf⟩
 ·refine km_ (p:=p*A.f.length+q) hok h hy ha rfl (by rw [hops];intro o ho;simp at ho;rcases ho with rfl|rfl <;> assumption) (by rw [hops];simp only [List.map_cons,List.map_nil,e0,e1])
 ·refine h2_ (xq_ A hok TL IS h.in_ _ h3 (y:Int) [.node u0 l0,.node u1 l1] (by
    have hz:=(gp_ h.in_ hp).1
    have hz2:=(gp_ h.in_ hq).1
    rw [e0] at hz
    rw [e1] at hz2
    rw [aq_,bz_,bz_]
    have:bm_ []=0:=by simp [bm_]
    omega)) ⟨Le.refl _,Le.refl _,Le.refl _,Le.agg ⟨Le.refl _,(by rw [dm_,gi_,a9_,a9_];exact Le.full),trivial⟩,trivial⟩ (Le.refl _)
theorem aao {cc:Code} (hsel:selC [1,1,1,0,1,2,2,1,2,1,1,2,2] hd_=some cc) (A:Au) (hok:AuOk A) (T0:List Tr) (I0:List Bool) (y:Nat) (hy:y<A.r.length) (hk:rankN A y=2) (TL:List Tr) (IS:List Bool) (b:Bool) (h:RSt A T0 I0 TL IS b y 0):
    DW Try.prog 134 cc ⟨[(1,.ref 1 0),(4,.flat (.int .i64 ((A.f.length:Nat):Int))),(5,.own 1717986918400005 A.f.length),(6,.own 1717986918400006 A.f.length),(7,.flat (.bool b)),(8,.flat (.int .i64 ((y:Nat):Int)))],[(1,some (.box [.sl false 1 A.r.length (A.r.map fun x=>D.flat (.int .i64 x)),.sl false 1 A.f.length (A.f.map fun x=>D.flat (.bool x)),.sl false 1 A.to.length (aj_ A.to)])),(1717986918400005,some (.row 74 2 A.f.length (ae_ TL))),(1717986918400006,some (.row 4 1 A.f.length (bC IS)))]⟩ (fun e s'=> ∃ (T1:List Tr) (I1:List Bool) (b1:Bool),RSt A T0 I0 T1 I1 b1 (y+1) 0∧Nm 134 ⟨[(1,.ref 1 0),(4,.flat (.int .i64 ((A.f.length:Nat):Int))),(5,.own 1717986918400005 A.f.length),(6,.own 1717986918400006 A.f.length),(7,.flat (.bool b1)),(8,.flat (.int .i64 (((y+1):Nat):Int)))],[(1,some (.box [.sl false 1 A.r.length (A.r.map fun x=>D.flat (.int .i64 x)),.sl false 1 A.f.length (A.f.map fun x=>D.flat (.bool x)),.sl false 1 A.to.length (aj_ A.to)])),(1717986918400005,some (.row 74 2 A.f.length (ae_ T1))),(1717986918400006,some (.row 4 1 A.f.length (bC I1)))]⟩ e s'):=by
  have hin:=adc hsel A hok T0 I0 y hy hk
  obtain⟨r1,r2⟩:=bg_ hok hy
  obtain⟨w1,w2,w3⟩:=bq_ hok hy
  have hrk:=an_ r2
  have hrw:=dc_ w1
  have hrl:(rowN A y).length≤1000000:=(bj_ hok).l _ (List.mem_of_getElem? w1)
  have hlo:=hok.lo
  have hnn:=hok.hi
  have hll:=hok.alpha.hi
  have hTl:=hok.len
  have q1:=ab_ A.r
  have q2:=al_ A.f
  have q3:=ao_ A.to
  have q4:=ab_ (rowN A y)
  have pT:=ah_
  have pI:∀ l:List Bool,persL (bC l)=true:=al_
  rw [hk] at hrk w2
  rw [Nat.pow_two] at w2
  have hrow:=fun (TL:List Tr) (IS:List Bool) (b:Bool) (h:RSt A T0 I0 TL IS b y (A.f.length*A.f.length))=>ns_ (by rw [w2];exact h)
  have hlen:=fun (TL:List Tr) (IS:List Bool) (b:Bool) (p:Nat) (h:RSt A T0 I0 TL IS b y p)=>And.intro h.in_.lt h.in_.li
  have hbp:∀ (IS:List Bool) (p:Nat),p<IS.length→partD false 1 (p*1) (bC IS)=some (.flat (.bool (IS.getD p false))):=fun IS p h=>ef_ (by rw [List.getD_eq_getElem?_getD,List.getElem?_eq_getElem h];rfl)
  clear w1 w2 w3 r2 hk hok
  generalize ((rowN A y).map fun x=>D.flat (.int .i64 x))=RW at*
  generalize (rowN A y).length=rl at*
  generalize (A.r.map fun x=>D.flat (.int .i64 x))=LR at*
  generalize (A.f.map fun x=>D.flat (.bool x))=LB at*
  generalize aj_ A.to=LT at*
  generalize A.r.length=lr at*
  generalize A.f.length=n at*
  generalize A.to.length=lt at*
  have hpn:∀ p,p<n→((p:Nat):Int)*(n:Int)≤300000:=fun p hp=>by
    have h2:((p*n:Nat):Int)≤((512*512:Nat):Int):=Int.ofNat_le.2 (Nat.mul_le_mul (by omega) hnn)
    rw [Int.natCast_mul] at h2
    omega
  refine DW.sel hsel (by rfl) ?_
  have p3:=pT TL
  have p4:=pI IS
  generalize hKK:ae_ TL=K0 at*
  generalize hBB:bC IS=B0 at*
  refine DW.walk ?_
  rw [← hKK,← hBB]
  clear hKK hBB
  refine DW.loopA (fun x:Nat × List Tr × List Bool × Bool=>⟨[(1,.ref 1 0),(4,.flat (.int .i64 ((n:Nat):Int))),(5,.own 1717986918400005 n),(6,.own 1717986918400006 n),(7,.flat (.bool x.2.2.2)),(8,.flat (.int .i64 ((y:Nat):Int))),(10,.flat (.int .i64 ((x.1:Nat):Int)))],[(1,some (.box [.sl false 1 lr LR,.sl false 1 n LB,.sl false 1 lt LT])),(1717986918400005,some (.row 74 2 n (ae_ x.2.1))),(1717986918400006,some (.row 4 1 n (bC x.2.2.1)))]⟩) (fun x=>x.1≤n∧RSt A T0 I0 x.2.1 x.2.2.1 x.2.2.2 y (x.1*n)) (fun x=>n - x.1) (0,TL,IS,b) ?_ ⟨Nat.zero_le _,(by rw [Nat.zero_mul];exact h)⟩ (by have z1:=pT TL;have z2:=pI IS;show Sub _ _ ⟨[(1,.ref 1 0),(4,.flat (.int .i64 ((n:Nat):Int))),(5,.own 1717986918400005 n),(6,.own 1717986918400006 n),(7,.flat (.bool b)),(8,.flat (.int .i64 ((y:Nat):Int))),(10,.flat (.int .i64 ((0:Nat):Int)))],[(1,some (.box [.sl false 1 lr LR,.sl false 1 n LB,.sl false 1 lt LT])),(1717986918400005,some (.row 74 2 n (ae_ TL))),(1717986918400006,some (.row 4 1 n (bC IS)))]⟩;generalize ae_ TL=K0 at *;generalize bC IS=B0 at *;exact Sub.auto)
  rintro⟨p,T1,I1,b1⟩ ⟨hp,h1⟩
  simp only at hp h1
  have z1:=pT T1
  have z2:=pI I1
  show DW _ _ _ ⟨[(1,.ref 1 0),(4,.flat (.int .i64 ((n:Nat):Int))),(5,.own 1717986918400005 n),(6,.own 1717986918400006 n),(7,.flat (.bool b1)),(8,.flat (.int .i64 ((y:Nat):Int))),(10,.flat (.int .i64 ((p:Nat):Int)))],[(1,some (.box [.sl false 1 lr LR,.sl false 1 n LB,.sl false 1 lt LT])),(1717986918400005,some (.row 74 2 n (ae_ T1))),(1717986918400006,some (.row 4 1 n (bC I1)))]⟩ _
  rcases Nat.lt_or_ge p n with hlt|hge
  · have hpn1:=hpn p hlt
    have hs0:=Nat.succ_mul p n
    generalize hKK:ae_ T1=K0 at*
    generalize hBB:bC I1=B0 at*
    refine DW.walk ?_
    rw [← hKK,← hBB]
    clear hKK hBB
    refine DW.loopA (fun x:Nat × List Tr × List Bool × Bool=>⟨[(1,.ref 1 0),(4,.flat (.int .i64 ((n:Nat):Int))),(5,.own 1717986918400005 n),(6,.own 1717986918400006 n),(7,.flat (.bool x.2.2.2)),(8,.flat (.int .i64 ((y:Nat):Int))),(10,.flat (.int .i64 ((p:Nat):Int))),(11,.flat (.int .i64 ((x.1:Nat):Int)))],[(1,some (.box [.sl false 1 lr LR,.sl false 1 n LB,.sl false 1 lt LT])),(1717986918400005,some (.row 74 2 n (ae_ x.2.1))),(1717986918400006,some (.row 4 1 n (bC x.2.2.1)))]⟩) (fun x=>x.1≤n∧RSt A T0 I0 x.2.1 x.2.2.1 x.2.2.2 y (p*n+x.1)) (fun x=>n - x.1) (0,T1,I1,b1) ?_ ⟨Nat.zero_le _,h1⟩ (by have z1:=pT T1;have z2:=pI I1;show Sub _ _ ⟨[(1,.ref 1 0),(4,.flat (.int .i64 ((n:Nat):Int))),(5,.own 1717986918400005 n),(6,.own 1717986918400006 n),(7,.flat (.bool b1)),(8,.flat (.int .i64 ((y:Nat):Int))),(10,.flat (.int .i64 ((p:Nat):Int))),(11,.flat (.int .i64 ((0:Nat):Int)))],[(1,some (.box [.sl false 1 lr LR,.sl false 1 n LB,.sl false 1 lt LT])),(1717986918400005,some (.row 74 2 n (ae_ T1))),(1717986918400006,some (.row 4 1 n (bC I1)))]⟩;generalize ae_ T1=K0 at *;generalize bC I1=B0 at *;exact Sub.auto)
    rintro⟨q,T2',I2',b2⟩ ⟨hq,h2⟩
    simp only at hq h2
    obtain⟨t1,t2⟩:=hlen _ _ _ _ h2
    have y1:=pT T2'
    have y2:=pI I2'
    show DW _ _ _ ⟨[(1,.ref 1 0),(4,.flat (.int .i64 ((n:Nat):Int))),(5,.own 1717986918400005 n),(6,.own 1717986918400006 n),(7,.flat (.bool b2)),(8,.flat (.int .i64 ((y:Nat):Int))),(10,.flat (.int .i64 ((p:Nat):Int))),(11,.flat (.int .i64 ((q:Nat):Int)))],[(1,some (.box [.sl false 1 lr LR,.sl false 1 n LB,.sl false 1 lt LT])),(1717986918400005,some (.row 74 2 n (ae_ T2'))),(1717986918400006,some (.row 4 1 n (bC I2')))]⟩ _
    rcases Nat.lt_or_ge q n with hlq|hgq
    · obtain ⟨hsk,s,s1,s2,s3,hst⟩:=hin T2' I2' b2 p q h2 hlt hlq
      have hb0:=hbp I2' p (by omega)
      have hb1:=hbp I2' q (by omega)
      obtain⟨u0,l0,e0,g0⟩:=cb_ (show p<T2'.length by omega)
      obtain⟨u1,l1,e1,g1⟩:=cb_ (show q<T2'.length by omega)
      have h4:p*n+(q+1)=p*n+q+1:=rfl
      cases hi0:I2'.getD p false with
      | false=>
        have hn:=hsk (.inl hi0)
        rw [hi0] at hb0
        clear hin hrow hlen hbp hsk hst hb1
        generalize hKK:ae_ T2'=K0 at*
        generalize hBB:bC I2'=B0 at*
        refine DW.walk ?_
        exact⟨(q+1,T2',I2',b2),⟨by show q+1≤n;omega,hn⟩,by show n - (q+1)<n - q;omega,by show Sub _ _ ⟨[(1,.ref 1 0),(4,.flat (.int .i64 ((n:Nat):Int))),(5,.own 1717986918400005 n),(6,.own 1717986918400006 n),(7,.flat (.bool b2)),(8,.flat (.int .i64 ((y:Nat):Int))),(10,.flat (.int .i64 ((p:Nat):Int))),(11,.flat (.int .i64 (((q+1):Nat):Int)))],[(1,some (.box [.sl false 1 lr LR,.sl false 1 n LB,.sl false 1 lt LT])),(1717986918400005,some (.row 74 2 n (ae_ T2'))),(1717986918400006,some (.row 4 1 n (bC I2')))]⟩;rw [hKK,hBB];exact Sub.auto⟩
      | true =>
        cases hi1:I2'.getD q false with
        | false=>
          have hn:=hsk (.inr hi1)
          rw [hi0] at hb0
          rw [hi1] at hb1
          clear hin hrow hlen hbp hsk hst
          generalize hKK:ae_ T2'=K0 at*
          generalize hBB:bC I2'=B0 at*
          refine DW.walk ?_
          exact⟨(q+1,T2',I2',b2),⟨by show q+1≤n;omega,hn⟩,by show n - (q+1)<n - q;omega,by show Sub _ _ ⟨[(1,.ref 1 0),(4,.flat (.int .i64 ((n:Nat):Int))),(5,.own 1717986918400005 n),(6,.own 1717986918400006 n),(7,.flat (.bool b2)),(8,.flat (.int .i64 ((y:Nat):Int))),(10,.flat (.int .i64 ((p:Nat):Int))),(11,.flat (.int .i64 (((q+1):Nat):Int)))],[(1,some (.box [.sl false 1 lr LR,.sl false 1 n LB,.sl false 1 lt LT])),(1717986918400005,some (.row 74 2 n (ae_ T2'))),(1717986918400006,some (.row 4 1 n (bC I2')))]⟩;rw [hKK,hBB];exact Sub.auto⟩
        | true=>
          obtain⟨hn,hbe⟩:=hst u0 u1 l0 l1 e0 e1 hi0 hi1
          rw [hi0] at hb0
          rw [hi1] at hb1
          have v0:=pT l0
          have v1:=pT l1
          have v3:=pT (if bet T2' I2' s (.node (y:Int) [.node u0 l0,.node u1 l1]) then T2'.set s (.node (y:Int) [.node u0 l0,.node u1 l1]) else T2')
          have v4:=pI (if bet T2' I2' s (.node (y:Int) [.node u0 l0,.node u1 l1]) then I2'.set s true else I2')
          clear hin hrow hlen hbp hsk hst
          generalize (if bet T2' I2' s (.node (y:Int) [.node u0 l0,.node u1 l1]) then T2'.set s (.node (y:Int) [.node u0 l0,.node u1 l1]) else T2')=TN at*
          generalize (if bet T2' I2' s (.node (y:Int) [.node u0 l0,.node u1 l1]) then I2'.set s true else I2')=IN at*
          generalize bet T2' I2' s (.node (y:Int) [.node u0 l0,.node u1 l1])=r at*
          generalize hKK:ae_ TN=KN at*
          generalize hBB:bC IN=BN at*
          generalize ae_ T2'=K0 at*
          generalize bC I2'=B0 at*
          generalize ae_ l0=KL0 at*
          generalize ae_ l1=KL1 at*
          generalize l0.length=ll0 at*
          generalize l1.length=ll1 at*
          cases r
          all_goals
            simp only [Bool.false_or,Bool.true_or] at hn
            refine DW.walk ?_
            exact⟨(q+1,TN,IN,_),⟨by show q+1≤n;omega,hn⟩,by show n - (q+1)<n - q;omega,by show Sub _ _ ⟨[(1,.ref 1 0),(4,.flat (.int .i64 ((n:Nat):Int))),(5,.own 1717986918400005 n),(6,.own 1717986918400006 n),(7,.flat (.bool _)),(8,.flat (.int .i64 ((y:Nat):Int))),(10,.flat (.int .i64 ((p:Nat):Int))),(11,.flat (.int .i64 (((q+1):Nat):Int)))],[(1,some (.box [.sl false 1 lr LR,.sl false 1 n LB,.sl false 1 lt LT])),(1717986918400005,some (.row 74 2 n (ae_ TN))),(1717986918400006,some (.row 4 1 n (bC IN)))]⟩;rw [hKK,hBB];exact Sub.auto⟩
    · obtain rfl:n=q:=by omega
      clear hin hrow hlen hbp
      generalize hKK:ae_ T2'=K0 at*
      generalize hBB:bC I2'=B0 at*
      refine DW.walk ?_
      exact⟨(p+1,T2',I2',b2),⟨by show p+1≤n;omega,by show RSt A T0 I0 T2' I2' b2 y ((p+1)*n);rw [hs0];exact h2⟩,by show n - (p+1)<n - p;omega,by show Sub _ _ ⟨[(1,.ref 1 0),(4,.flat (.int .i64 ((n:Nat):Int))),(5,.own 1717986918400005 n),(6,.own 1717986918400006 n),(7,.flat (.bool b2)),(8,.flat (.int .i64 ((y:Nat):Int))),(10,.flat (.int .i64 (((p+1):Nat):Int)))],[(1,some (.box [.sl false 1 lr LR,.sl false 1 n LB,.sl false 1 lt LT])),(1717986918400005,some (.row 74 2 n (ae_ T2'))),(1717986918400006,some (.row 4 1 n (bC I2')))]⟩;rw [hKK,hBB];exact Sub.auto⟩
  · obtain rfl:n=p:=by omega
    have hn:=hrow _ _ _ h1
    clear hin hrow hlen hbp
    generalize hKK:ae_ T1=K0 at*
    generalize hBB:bC I1=B0 at*
    refine DW.walk ?_
    refine⟨T1,I1,b1,hn,?_⟩
    rw [hKK,hBB]
    exact Nm.mk Sub.auto
end Go.Proofs.Ytichhfbkhnimmaa
