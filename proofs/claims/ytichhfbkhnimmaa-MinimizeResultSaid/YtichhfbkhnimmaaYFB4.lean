/- The table of distances: one cell at 2 states. No condition. -/
import Derived.Test.YtichhfbkhnimmaaYFB1
set_option linter.unusedSimpArgs false
set_option linter.unusedVariables false
set_option maxHeartbeats 4000000
set_option maxRecDepth 8000
namespace Go.Proofs.Ytichhfbkhnimmaa
open Go Go.RowKit Go.PP Go.Dm Go.Rt Go.Mn
theorem z4_ {cc:Code} (hsel:selC [1,1,1,1,1,0,1,2,2,1,0,2,1,2,2,1,0,2,1,2,2] ap_=some cc) (A:Au) (hok:AuOk A) (r p q:Nat) (hN:A.f.length=2) (hr:r<A.f.length) (hp:p<A.f.length) (hq:q<A.f.length) (hm:(ab_ A).length≤5000000):
  DW Try.prog 118 cc ⟨(sQ A.f.length (ab_ A).length r p q (spC (ab_ A))),(eT2 A.r.length A.f.length A.to.length (A.r.map fun x=>D.flat (.int .i64 x)) (A.f.map fun x=>D.flat (.bool x)) (ag_ A.to) (MR A r p q))⟩ (Nm 118 ⟨(sQ A.f.length (ab_ A).length r p (q+1) (spC (ab_ A))),(eT2 A.r.length A.f.length A.to.length (A.r.map fun x=>D.flat (.int .i64 x)) (A.f.map fun x=>D.flat (.bool x)) (ag_ A.to) (MR A r p (q+1)))⟩):=by
 have q1:=ad_ A.r
 have q2:=ai_ A.f
 have q3:=al_ A.to
 have q4:=ao_ (ab_ A)
 have hgo:=fun (s:Sp) (hs:s∈ab_ A) (p:Int) (hp:InA A p)=>zp_ A hok s (a2_.1 hs) p hp
 have hin:=fun (s:Sp) (hs:s∈ab_ A) (p:Int) (hp:InA A p)=>b4_ hok (a2_.1 hs) hp
 have hgs:∀ (i:Nat) (s:Sp),(ab_ A)[i]?=some s→partD true 3 (i*3) (spC (ab_ A))=some (spD s):=fun i s h=>by
  exact e8_ h
 have hip:InA A p:=⟨by omega,by omega⟩
 have hiq:InA A q:=⟨by omega,by omega⟩
 unfold InA at hin hip hiq hgo
 rw [au_ A] at hgo
 generalize (A.r.map fun x=>D.flat (.int .i64 x))=LR at*
 generalize (A.f.map fun x=>D.flat (.bool x))=LB at*
 generalize ag_ A.to=LT at*
 generalize spC (ab_ A)=SC at*
 generalize A.r.length=rl at*
 generalize A.f.length=n at*
 generalize A.to.length=ta at*
 have hmiss:=fun h0 (h:∀ s∈ab_ A,farK A r (an_ A s p) (an_ A s q)≠(r:Int))=>fg_ (A:=A) (r:=r) (p:=p) (q:=q) h0 h
 have hhit:=fun (s:Sp) h0 hs he=>g4_ (A:=A) (r:=r) (p:=p) (q:=q) (s:=s) h0 hs he
 have hself:=df_ A r p q
 have hself1:=df_ A (r+1) p q
 generalize hSt:ab_ A=ss at*
 generalize hme:ss.length=m at*
 have zp:=fun M i=>aa_ M n i
 refine DW.sel hsel (by rfl) ?_
 dsimp only [eT2,sS,sQ]
 have y0:=zp (MR A r p q) 0;have y1:=zp (MR A r p q) 1;
 refine DW.walk ?_
 refine DW.loopA (fun x:Nat × Bool=>⟨(sS n m r p q x.1 SC),[(1,some (.box [.sl false 1 rl LR,.sl false 1 n LB,.sl false 1 ta LT])),(16,some (.row 22 1 n [.own 801 n,.own 802 n])),(801,some (.row 3 1 n (mrow (if x.2 then (MR A r p (q+1)) else (MR A r p q)) n 0))),(802,some (.row 3 1 n (mrow (if x.2 then (MR A r p (q+1)) else (MR A r p q)) n 1)))]⟩) (fun x=>x.1≤m∧(x.2=true→farK A (r+1) p q=((r+1:Nat):Int))∧(x.2=false→ ∀ s∈ss.take x.1,farK A r (an_ A s p) (an_ A s q)≠(r:Int))) (fun x=>m - x.1) (0,false) ?_ ⟨Nat.zero_le _,(fun h=>by cases h),(fun _=>by simp)⟩ (by show Sub _ _ ⟨(sS n m r p q 0 SC),(eT2 rl n ta LR LB LT (MR A r p q))⟩;dsimp only [eT2,sS,sQ];exact Sub.auto)
 rintro⟨s,b⟩ ⟨hs0,hb1,hb2⟩
 simp only at hs0 hb1 hb2
 have hkeep:farK A (r+1) p q=farK A r p q→(MR A r p (q+1))=(MR A r p q):=fun h=>g9_ h
 cases b with
 |true=>
  have hv:=hb1 rfl
  show DW _ _ _ ⟨(sS n m r p q s SC),(eT2 rl n ta LR LB LT (MR A r p (q+1)))⟩ _
  dsimp only [eT2,sS,sQ]
  have hvv:(MR A r p (q+1)) p q=((r+1:Nat):Int):=by
   rw [← hv];unfold MR;rw [if_pos (by omega)]
  have x0:=zp (MR A r p (q+1)) 0;have x1:=zp (MR A r p (q+1)) 1;
  generalize (MR A r p (q+1))=M at*
  rcases Nat.lt_or_ge s m with hs|hge
  ·refine DW.walkTo 24 ?_
   refine (w5_ (by rfl) n m rl ta r q s p hN LR LB LT SC M q1 q2 q3 q4 hm hr hp hq hs).mono ?_
   rintro e s' ⟨rfl,hsub⟩
   show DW _ _ _ _ _
   refine DW.sub hsub ?_
   dsimp only [eT2,sS,sQ]
   rw [hvv]
   clear hsub hmiss hhit hgo hgs hin zp hb1 hb2 hkeep
   generalize mrow M n 0=R0 at *;generalize mrow M n 1=R1 at *;
   refine DW.walk ?_
   exact Nm.mk Sub.auto
  ·obtain rfl:s=m:=by omega
   clear hmiss hhit hgo hgs hin zp hb1 hb2 hkeep
   generalize mrow M n 0=R0 at *;generalize mrow M n 1=R1 at *;
   refine DW.walk ?_
   exact Nm.mk Sub.auto
 |false  =>
  have hb:=hb2 rfl
  show DW _ _ _ ⟨(sS n m r p q s SC),(eT2 rl n ta LR LB LT (MR A r p q))⟩ _
  dsimp only [eT2,sS,sQ]
  rcases Nat.lt_or_ge s m with hs|hge
  ·obtain    ⟨st,hst⟩:∃ st,ss[s]?=some st:=⟨_,List.getElem?_eq_getElem (by omega)⟩
   have hmem:=List.mem_of_getElem? hst
   refine DW.walkTo 24 ?_
   refine (w5_ (by rfl) n m rl ta r q s p hN LR LB LT SC (MR A r p q) q1 q2 q3 q4 hm hr hp hq hs).mono ?_
   rintro e s' ⟨rfl,hsub⟩
   show DW _ _ _ _ _
   refine DW.sub hsub ?_
   dsimp only [eT2,sS,sQ]
   rw [hself]
   by_cases hneg:farK A r p q<0
   ·    rw [decide_eq_true hneg]
        refine DW.walkTo 26 ?_
        obtain⟨i0,i1⟩:=hin st hmem p hip
        obtain⟨j0,j1⟩:=hin st hmem q hiq
        have g1:=hgo st hmem p hip
        have g2:=hgo st hmem q hiq
        have gs:=hgs s st hst
        obtain⟨x,hx⟩:=Int.eq_ofNat_of_zero_le i0
        obtain⟨y,hy⟩:=Int.eq_ofNat_of_zero_le j0
        rw [hx] at g1 i1
        rw [hy] at g2 j1
        have heq:=rg_ A r p q x y
        rw [← hx,← hy] at heq
        rw [hx,hy] at heq
        refine DW.sub (s':=⟨(sS n m r p q s SC),(eT2 rl n ta LR LB LT (MR A r p q))⟩) (by dsimp only [eT2,sS,sQ];exact Sub.auto) ?_
        refine (aap (by rfl) n m rl ta r q s p hN LR LB LT SC (MR A r p q) q1 q2 q3 q4 hm hr hp hq hs st.sym st.at_ st.other x y (by omega) (by omega) gs g1 g2).mono ?_
        rintro e s' ⟨rfl,hsub⟩
        show DW _ _ _ _ _
        refine DW.sub hsub ?_
        dsimp only [eT2,sS,sQ]
        by_cases hh:(MR A r p q) x y=(r:Int)
        ·rw [decide_eq_true hh]
         have h1:=heq.1 hh
         rw [← hx,← hy] at h1
         have h2:=hhit st hneg hmem h1
         have hput:=kb_ (A:=A) (r:=r) (p:=p) (q:=q) (v:=((r:Nat):Int)+1) (by rw [h2];omega)
         refine DW.walkTo 27 ?_
         refine DW.sub (s':=⟨(sS n m r p q s SC),(eT2 rl n ta LR LB LT (MR A r p q))⟩) (by dsimp only [eT2,sS,sQ];exact Sub.auto) ?_
         refine (zs_ (by rfl) n m rl ta r q s p hN LR LB LT SC (MR A r p q) q1 q2 q3 q4 hm hr hp hq hs).mono ?_
         rintro e s' ⟨rfl,hsub⟩
         show DW _ _ _ _ _
         refine DW.sub hsub ?_
         dsimp only [eT2,sS,sQ]
         rw [hput]
         have x0:=zp (MR A r p (q+1)) 0;have x1:=zp (MR A r p (q+1)) 1;
         clear hsub hmiss hhit hgo hgs hin zp hb1 hb2 hkeep heq hput hh
         generalize hR0:mrow (MR A r p (q+1)) n 0=R0 at *;generalize hR1:mrow (MR A r p (q+1)) n 1=R1 at *;
         refine DW.walk ?_
         exact⟨(s+1,true),⟨by omega,(fun _=>h2),(fun h=>by cases h)⟩,by show m - (s+1)<m - s;omega,by show Sub _ _ ⟨(sS n m r p q (s+1) SC),(eT2 rl n ta LR LB LT (MR A r p (q+1)))⟩;dsimp only [eT2,sS,sQ];rw [hR0,hR1];exact Sub.auto⟩
        ·rw  [decide_eq_false hh]
         have h1:farK A r (an_ A st p) (an_ A st q)≠(r:Int):=fun h=>hh (heq.2 (by rw [← hx,← hy];exact h))
         have hb3:∀ z∈ss.take (s+1),farK A r (an_ A z p) (an_ A z q)≠(r:Int):=fun z hz=>by
            rw [List.take_add_one,hst] at hz
            rcases List.mem_append.1 hz with hz|hz
            ·exact hb z hz
            ·simp at hz;subst hz;exact h1
         clear hsub hmiss hhit hgo hgs hin zp hb1 hb2 hkeep heq hh
         generalize hR0:mrow (MR A r p q) n 0=R0 at *;generalize hR1:mrow (MR A r p q) n 1=R1 at *;
         refine DW.walk ?_
         exact⟨(s+1,false),⟨by omega,(fun h=>by cases h),(fun _=>hb3)⟩,by show m - (s+1)<m - s;omega,by show Sub _ _ ⟨(sS n m r p q (s+1) SC),(eT2 rl n ta LR LB LT (MR A r p q))⟩;dsimp only [eT2,sS,sQ];rw [hR0,hR1];exact Sub.auto⟩
   ·    rw [decide_eq_false hneg,hkeep (b2_ (by omega))]
        clear hsub hmiss hhit hgo hgs hin zp hb1 hb2 hkeep
        generalize mrow (MR A r p q) n 0=R0 at *;generalize mrow (MR A r p q) n 1=R1 at *;
        refine DW.walk ?_
        exact Nm.mk Sub.auto
  ·obtain rfl:s=m:=by omega
   have hall:∀ z∈ss,farK A r (an_ A z p) (an_ A z q)≠(r:Int):=fun z hz=>hb z (by rw [← hme,List.take_length];exact hz)
   have  hk2:farK A (r+1) p q=farK A r p q:=by
        by_cases hneg:farK A r p q<0
        ·exact hmiss hneg hall
        ·exact b2_ (by omega)
   rw [hkeep hk2]
   clear hmiss hhit hgo hgs hin zp hb1 hb2 hkeep hall hb
   generalize mrow (MR A r p q) n 0=R0 at *;generalize mrow (MR A r p q) n 1=R1 at *;
   refine DW.walk ?_
   exact Nm.mk Sub.auto
theorem aab {cc:Code} (hsel:selC [1,1,1,1,1,0,1,2,2,1,0,2,1,2,2,1,0,2,1,2,2] ap_=some cc) (A:Au) (hok:AuOk A) (r p q:Nat) (hN:A.f.length=3) (hr:r<A.f.length) (hp:p<A.f.length) (hq:q<A.f.length) (hm:(ab_ A).length≤5000000):
  DW Try.prog 118 cc ⟨(sQ A.f.length (ab_ A).length r p q (spC (ab_ A))),(eT3 A.r.length A.f.length A.to.length (A.r.map fun x=>D.flat (.int .i64 x)) (A.f.map fun x=>D.flat (.bool x)) (ag_ A.to) (MR A r p q))⟩ (Nm 118 ⟨(sQ A.f.length (ab_ A).length r p (q+1) (spC (ab_ A))),(eT3 A.r.length A.f.length A.to.length (A.r.map fun x=>D.flat (.int .i64 x)) (A.f.map fun x=>D.flat (.bool x)) (ag_ A.to) (MR A r p (q+1)))⟩):=by
 have q1:=ad_ A.r
 have q2:=ai_ A.f
 have q3:=al_ A.to
 have q4:=ao_ (ab_ A)
 have hgo:=fun (s:Sp) (hs:s∈ab_ A) (p:Int) (hp:InA A p)=>zp_ A hok s (a2_.1 hs) p hp
 have hin:=fun (s:Sp) (hs:s∈ab_ A) (p:Int) (hp:InA A p)=>b4_ hok (a2_.1 hs) hp
 have hgs:∀ (i:Nat) (s:Sp),(ab_ A)[i]?=some s→partD true 3 (i*3) (spC (ab_ A))=some (spD s):=fun i s h=>by
  exact e8_ h
 have hip:InA A p:=⟨by omega,by omega⟩
 have hiq:InA A q:=⟨by omega,by omega⟩
 unfold InA at hin hip hiq hgo
 rw [au_ A] at hgo
 generalize (A.r.map fun x=>D.flat (.int .i64 x))=LR at*
 generalize (A.f.map fun x=>D.flat (.bool x))=LB at*
 generalize ag_ A.to=LT at*
 generalize spC (ab_ A)=SC at*
 generalize A.r.length=rl at*
 generalize A.f.length=n at*
 generalize A.to.length=ta at*
 have hmiss:=fun h0 (h:∀ s∈ab_ A,farK A r (an_ A s p) (an_ A s q)≠(r:Int))=>fg_ (A:=A) (r:=r) (p:=p) (q:=q) h0 h
 have hhit:=fun (s:Sp) h0 hs he=>g4_ (A:=A) (r:=r) (p:=p) (q:=q) (s:=s) h0 hs he
 have hself:=df_ A r p q
 have hself1:=df_ A (r+1) p q
 generalize hSt:ab_ A=ss at*
 generalize hme:ss.length=m at*
 have zp:=fun M i=>aa_ M n i
 refine DW.sel hsel (by rfl) ?_
 dsimp only [eT3,sS,sQ]
 have y0:=zp (MR A r p q) 0;have y1:=zp (MR A r p q) 1;have y2:=zp (MR A r p q) 2;
 refine DW.walk ?_
 refine DW.loopA (fun x:Nat × Bool=>⟨(sS n m r p q x.1 SC),[(1,some (.box [.sl false 1 rl LR,.sl false 1 n LB,.sl false 1 ta LT])),(16,some (.row 22 1 n [.own 801 n,.own 802 n,.own 803 n])),(801,some (.row 3 1 n (mrow (if x.2 then (MR A r p (q+1)) else (MR A r p q)) n 0))),(802,some (.row 3 1 n (mrow (if x.2 then (MR A r p (q+1)) else (MR A r p q)) n 1))),(803,some (.row 3 1 n (mrow (if x.2 then (MR A r p (q+1)) else (MR A r p q)) n 2)))]⟩) (fun x=>x.1≤m∧(x.2=true→farK A (r+1) p q=((r+1:Nat):Int))∧(x.2=false→ ∀ s∈ss.take x.1,farK A r (an_ A s p) (an_ A s q)≠(r:Int))) (fun x=>m - x.1) (0,false) ?_ ⟨Nat.zero_le _,(fun h=>by cases h),(fun _=>by simp)⟩ (by show Sub _ _ ⟨(sS n m r p q 0 SC),(eT3 rl n ta LR LB LT (MR A r p q))⟩;dsimp only [eT3,sS,sQ];exact Sub.auto)
 rintro⟨s,b⟩ ⟨hs0,hb1,hb2⟩
 simp only at hs0 hb1 hb2
 have hkeep:farK A (r+1) p q=farK A r p q→(MR A r p (q+1))=(MR A r p q):=fun h=>g9_ h
 cases b with
 |true=>
  have hv:=hb1 rfl
  show DW _ _ _ ⟨(sS n m r p q s SC),(eT3 rl n ta LR LB LT (MR A r p (q+1)))⟩ _
  dsimp only [eT3,sS,sQ]
  have hvv:(MR A r p (q+1)) p q=((r+1:Nat):Int):=by
   rw [← hv];unfold MR;rw [if_pos (by omega)]
  have x0:=zp (MR A r p (q+1)) 0;have x1:=zp (MR A r p (q+1)) 1;have x2:=zp (MR A r p (q+1)) 2;
  generalize (MR A r p (q+1))=M at*
  rcases Nat.lt_or_ge s m with hs|hge
  ·refine DW.walkTo 24 ?_
   refine (wy_ (by rfl) n m rl ta r q s p hN LR LB LT SC M q1 q2 q3 q4 hm hr hp hq hs).mono ?_
   rintro e s' ⟨rfl,hsub⟩
   show DW _ _ _ _ _
   refine DW.sub hsub ?_
   dsimp only [eT3,sS,sQ]
   rw [hvv]
   clear hsub hmiss hhit hgo hgs hin zp hb1 hb2 hkeep
   generalize mrow M n 0=R0 at *;generalize mrow M n 1=R1 at *;generalize mrow M n 2=R2 at *;
   refine DW.walk ?_
   exact Nm.mk Sub.auto
  ·obtain rfl:s=m:=by omega
   clear hmiss hhit hgo hgs hin zp hb1 hb2 hkeep
   generalize mrow M n 0=R0 at *;generalize mrow M n 1=R1 at *;generalize mrow M n 2=R2 at *;
   refine DW.walk ?_
   exact Nm.mk Sub.auto
 |false  =>
  have hb:=hb2 rfl
  show DW _ _ _ ⟨(sS n m r p q s SC),(eT3 rl n ta LR LB LT (MR A r p q))⟩ _
  dsimp only [eT3,sS,sQ]
  rcases Nat.lt_or_ge s m with hs|hge
  ·obtain    ⟨st,hst⟩:∃ st,ss[s]?=some st:=⟨_,List.getElem?_eq_getElem (by omega)⟩
   have hmem:=List.mem_of_getElem? hst
   refine DW.walkTo 24 ?_
   refine (wy_ (by rfl) n m rl ta r q s p hN LR LB LT SC (MR A r p q) q1 q2 q3 q4 hm hr hp hq hs).mono ?_
   rintro e s' ⟨rfl,hsub⟩
   show DW _ _ _ _ _
   refine DW.sub hsub ?_
   dsimp only [eT3,sS,sQ]
   rw [hself]
   by_cases hneg:farK A r p q<0
   ·    rw [decide_eq_true hneg]
        refine DW.walkTo 26 ?_
        obtain⟨i0,i1⟩:=hin st hmem p hip
        obtain⟨j0,j1⟩:=hin st hmem q hiq
        have g1:=hgo st hmem p hip
        have g2:=hgo st hmem q hiq
        have gs:=hgs s st hst
        obtain⟨x,hx⟩:=Int.eq_ofNat_of_zero_le i0
        obtain⟨y,hy⟩:=Int.eq_ofNat_of_zero_le j0
        rw [hx] at g1 i1
        rw [hy] at g2 j1
        have heq:=rg_ A r p q x y
        rw [← hx,← hy] at heq
        rw [hx,hy] at heq
        refine DW.sub (s':=⟨(sS n m r p q s SC),(eT3 rl n ta LR LB LT (MR A r p q))⟩) (by dsimp only [eT3,sS,sQ];exact Sub.auto) ?_
        refine (aaq (by rfl) n m rl ta r q s p hN LR LB LT SC (MR A r p q) q1 q2 q3 q4 hm hr hp hq hs st.sym st.at_ st.other x y (by omega) (by omega) gs g1 g2).mono ?_
        rintro e s' ⟨rfl,hsub⟩
        show DW _ _ _ _ _
        refine DW.sub hsub ?_
        dsimp only [eT3,sS,sQ]
        by_cases hh:(MR A r p q) x y=(r:Int)
        ·rw [decide_eq_true hh]
         have h1:=heq.1 hh
         rw [← hx,← hy] at h1
         have h2:=hhit st hneg hmem h1
         have hput:=kb_ (A:=A) (r:=r) (p:=p) (q:=q) (v:=((r:Nat):Int)+1) (by rw [h2];omega)
         refine DW.walkTo 27 ?_
         refine DW.sub (s':=⟨(sS n m r p q s SC),(eT3 rl n ta LR LB LT (MR A r p q))⟩) (by dsimp only [eT3,sS,sQ];exact Sub.auto) ?_
         refine (aao (by rfl) n m rl ta r q s p hN LR LB LT SC (MR A r p q) q1 q2 q3 q4 hm hr hp hq hs).mono ?_
         rintro e s' ⟨rfl,hsub⟩
         show DW _ _ _ _ _
         refine DW.sub hsub ?_
         dsimp only [eT3,sS,sQ]
         rw [hput]
         have x0:=zp (MR A r p (q+1)) 0;have x1:=zp (MR A r p (q+1)) 1;have x2:=zp (MR A r p (q+1)) 2;
         clear hsub hmiss hhit hgo hgs hin zp hb1 hb2 hkeep heq hput hh
         generalize hR0:mrow (MR A r p (q+1)) n 0=R0 at *;generalize hR1:mrow (MR A r p (q+1)) n 1=R1 at *;generalize hR2:mrow (MR A r p (q+1)) n 2=R2 at *;
         refine DW.walk ?_
         exact⟨(s+1,true),⟨by omega,(fun _=>h2),(fun h=>by cases h)⟩,by show m - (s+1)<m - s;omega,by show Sub _ _ ⟨(sS n m r p q (s+1) SC),(eT3 rl n ta LR LB LT (MR A r p (q+1)))⟩;dsimp only [eT3,sS,sQ];rw [hR0,hR1,hR2];exact Sub.auto⟩
        ·rw  [decide_eq_false hh]
         have h1:farK A r (an_ A st p) (an_ A st q)≠(r:Int):=fun h=>hh (heq.2 (by rw [← hx,← hy];exact h))
         have hb3:∀ z∈ss.take (s+1),farK A r (an_ A z p) (an_ A z q)≠(r:Int):=fun z hz=>by
            rw [List.take_add_one,hst] at hz
            rcases List.mem_append.1 hz with hz|hz
            ·exact hb z hz
            ·simp at hz;subst hz;exact h1
         clear hsub hmiss hhit hgo hgs hin zp hb1 hb2 hkeep heq hh
         generalize hR0:mrow (MR A r p q) n 0=R0 at *;generalize hR1:mrow (MR A r p q) n 1=R1 at *;generalize hR2:mrow (MR A r p q) n 2=R2 at *;
         refine DW.walk ?_
         exact⟨(s+1,false),⟨by omega,(fun h=>by cases h),(fun _=>hb3)⟩,by show m - (s+1)<m - s;omega,by show Sub _ _ ⟨(sS n m r p q (s+1) SC),(eT3 rl n ta LR LB LT (MR A r p q))⟩;dsimp only [eT3,sS,sQ];rw [hR0,hR1,hR2];exact Sub.auto⟩
   ·    rw [decide_eq_false hneg,hkeep (b2_ (by omega))]
        clear hsub hmiss hhit hgo hgs hin zp hb1 hb2 hkeep
        generalize mrow (MR A r p q) n 0=R0 at *;generalize mrow (MR A r p q) n 1=R1 at *;generalize mrow (MR A r p q) n 2=R2 at *;
        refine DW.walk ?_
        exact Nm.mk Sub.auto
  ·obtain rfl:s=m:=by omega
   have hall:∀ z∈ss,farK A r (an_ A z p) (an_ A z q)≠(r:Int):=fun z hz=>hb z (by rw [← hme,List.take_length];exact hz)
   have  hk2:farK A (r+1) p q=farK A r p q:=by
        by_cases hneg:farK A r p q<0
        ·exact hmiss hneg hall
        ·exact b2_ (by omega)
   rw [hkeep hk2]
   clear hmiss hhit hgo hgs hin zp hb1 hb2 hkeep hall hb
   generalize mrow (MR A r p q) n 0=R0 at *;generalize mrow (MR A r p q) n 1=R1 at *;generalize mrow (MR A r p q) n 2=R2 at *;
   refine DW.walk ?_
   exact Nm.mk Sub.auto
theorem aaz {cc:Code} (hsel:selC [1,1,1,1,1,0,1,2,2,1,0,2,1,2,2,1,0,2,1,2,2] ap_=some cc) (A:Au) (hok:AuOk A) (r p q:Nat) (hN:A.f.length=4) (hr:r<A.f.length) (hp:p<A.f.length) (hq:q<A.f.length) (hm:(ab_ A).length≤5000000):
  DW Try.prog 118 cc ⟨(sQ A.f.length (ab_ A).length r p q (spC (ab_ A))),(eT4 A.r.length A.f.length A.to.length (A.r.map fun x=>D.flat (.int .i64 x)) (A.f.map fun x=>D.flat (.bool x)) (ag_ A.to) (MR A r p q))⟩ (Nm 118 ⟨(sQ A.f.length (ab_ A).length r p (q+1) (spC (ab_ A))),(eT4 A.r.length A.f.length A.to.length (A.r.map fun x=>D.flat (.int .i64 x)) (A.f.map fun x=>D.flat (.bool x)) (ag_ A.to) (MR A r p (q+1)))⟩):=by
 have q1:=ad_ A.r
 have q2:=ai_ A.f
 have q3:=al_ A.to
 have q4:=ao_ (ab_ A)
 have hgo:=fun (s:Sp) (hs:s∈ab_ A) (p:Int) (hp:InA A p)=>zp_ A hok s (a2_.1 hs) p hp
 have hin:=fun (s:Sp) (hs:s∈ab_ A) (p:Int) (hp:InA A p)=>b4_ hok (a2_.1 hs) hp
 have hgs:∀ (i:Nat) (s:Sp),(ab_ A)[i]?=some s→partD true 3 (i*3) (spC (ab_ A))=some (spD s):=fun i s h=>by
  exact e8_ h
 have hip:InA A p:=⟨by omega,by omega⟩
 have hiq:InA A q:=⟨by omega,by omega⟩
 unfold InA at hin hip hiq hgo
 rw [au_ A] at hgo
 generalize (A.r.map fun x=>D.flat (.int .i64 x))=LR at*
 generalize (A.f.map fun x=>D.flat (.bool x))=LB at*
 generalize ag_ A.to=LT at*
 generalize spC (ab_ A)=SC at*
 generalize A.r.length=rl at*
 generalize A.f.length=n at*
 generalize A.to.length=ta at*
 have hmiss:=fun h0 (h:∀ s∈ab_ A,farK A r (an_ A s p) (an_ A s q)≠(r:Int))=>fg_ (A:=A) (r:=r) (p:=p) (q:=q) h0 h
 have hhit:=fun (s:Sp) h0 hs he=>g4_ (A:=A) (r:=r) (p:=p) (q:=q) (s:=s) h0 hs he
 have hself:=df_ A r p q
 have hself1:=df_ A (r+1) p q
 generalize hSt:ab_ A=ss at*
 generalize hme:ss.length=m at*
 have zp:=fun M i=>aa_ M n i
 refine DW.sel hsel (by rfl) ?_
 dsimp only [eT4,sS,sQ]
 have y0:=zp (MR A r p q) 0;have y1:=zp (MR A r p q) 1;have y2:=zp (MR A r p q) 2;have y3:=zp (MR A r p q) 3;
 refine DW.walk ?_
 refine DW.loopA (fun x:Nat × Bool=>⟨(sS n m r p q x.1 SC),[(1,some (.box [.sl false 1 rl LR,.sl false 1 n LB,.sl false 1 ta LT])),(16,some (.row 22 1 n [.own 801 n,.own 802 n,.own 803 n,.own 804 n])),(801,some (.row 3 1 n (mrow (if x.2 then (MR A r p (q+1)) else (MR A r p q)) n 0))),(802,some (.row 3 1 n (mrow (if x.2 then (MR A r p (q+1)) else (MR A r p q)) n 1))),(803,some (.row 3 1 n (mrow (if x.2 then (MR A r p (q+1)) else (MR A r p q)) n 2))),(804,some (.row 3 1 n (mrow (if x.2 then (MR A r p (q+1)) else (MR A r p q)) n 3)))]⟩) (fun x=>x.1≤m∧(x.2=true→farK A (r+1) p q=((r+1:Nat):Int))∧(x.2=false→ ∀ s∈ss.take x.1,farK A r (an_ A s p) (an_ A s q)≠(r:Int))) (fun x=>m - x.1) (0,false) ?_ ⟨Nat.zero_le _,(fun h=>by cases h),(fun _=>by simp)⟩ (by show Sub _ _ ⟨(sS n m r p q 0 SC),(eT4 rl n ta LR LB LT (MR A r p q))⟩;dsimp only [eT4,sS,sQ];exact Sub.auto)
 rintro⟨s,b⟩ ⟨hs0,hb1,hb2⟩
 simp only at hs0 hb1 hb2
 have hkeep:farK A (r+1) p q=farK A r p q→(MR A r p (q+1))=(MR A r p q):=fun h=>g9_ h
 cases b with
 |true=>
  have hv:=hb1 rfl
  show DW _ _ _ ⟨(sS n m r p q s SC),(eT4 rl n ta LR LB LT (MR A r p (q+1)))⟩ _
  dsimp only [eT4,sS,sQ]
  have hvv:(MR A r p (q+1)) p q=((r+1:Nat):Int):=by
   rw [← hv];unfold MR;rw [if_pos (by omega)]
  have x0:=zp (MR A r p (q+1)) 0;have x1:=zp (MR A r p (q+1)) 1;have x2:=zp (MR A r p (q+1)) 2;have x3:=zp (MR A r p (q+1)) 3;
  generalize (MR A r p (q+1))=M at*
  rcases Nat.lt_or_ge s m with hs|hge
  ·refine DW.walkTo 24 ?_
   refine (w7_ (by rfl) n m rl ta r q s p hN LR LB LT SC M q1 q2 q3 q4 hm hr hp hq hs).mono ?_
   rintro e s' ⟨rfl,hsub⟩
   show DW _ _ _ _ _
   refine DW.sub hsub ?_
   dsimp only [eT4,sS,sQ]
   rw [hvv]
   clear hsub hmiss hhit hgo hgs hin zp hb1 hb2 hkeep
   generalize mrow M n 0=R0 at *;generalize mrow M n 1=R1 at *;generalize mrow M n 2=R2 at *;generalize mrow M n 3=R3 at *;
   refine DW.walk ?_
   exact Nm.mk Sub.auto
  ·obtain rfl:s=m:=by omega
   clear hmiss hhit hgo hgs hin zp hb1 hb2 hkeep
   generalize mrow M n 0=R0 at *;generalize mrow M n 1=R1 at *;generalize mrow M n 2=R2 at *;generalize mrow M n 3=R3 at *;
   refine DW.walk ?_
   exact Nm.mk Sub.auto
 |false  =>
  have hb:=hb2 rfl
  show DW _ _ _ ⟨(sS n m r p q s SC),(eT4 rl n ta LR LB LT (MR A r p q))⟩ _
  dsimp only [eT4,sS,sQ]
  rcases Nat.lt_or_ge s m with hs|hge
  ·obtain    ⟨st,hst⟩:∃ st,ss[s]?=some st:=⟨_,List.getElem?_eq_getElem (by omega)⟩
   have hmem:=List.mem_of_getElem? hst
   refine DW.walkTo 24 ?_
   refine (w7_ (by rfl) n m rl ta r q s p hN LR LB LT SC (MR A r p q) q1 q2 q3 q4 hm hr hp hq hs).mono ?_
   rintro e s' ⟨rfl,hsub⟩
   show DW _ _ _ _ _
   refine DW.sub hsub ?_
   dsimp only [eT4,sS,sQ]
   rw [hself]
   by_cases hneg:farK A r p q<0
   ·    rw [decide_eq_true hneg]
        refine DW.walkTo 26 ?_
        obtain⟨i0,i1⟩:=hin st hmem p hip
        obtain⟨j0,j1⟩:=hin st hmem q hiq
        have g1:=hgo st hmem p hip
        have g2:=hgo st hmem q hiq
        have gs:=hgs s st hst
        obtain⟨x,hx⟩:=Int.eq_ofNat_of_zero_le i0
        obtain⟨y,hy⟩:=Int.eq_ofNat_of_zero_le j0
        rw [hx] at g1 i1
        rw [hy] at g2 j1
        have heq:=rg_ A r p q x y
        rw [← hx,← hy] at heq
        rw [hx,hy] at heq
        refine DW.sub (s':=⟨(sS n m r p q s SC),(eT4 rl n ta LR LB LT (MR A r p q))⟩) (by dsimp only [eT4,sS,sQ];exact Sub.auto) ?_
        refine (aa0 (by rfl) n m rl ta r q s p hN LR LB LT SC (MR A r p q) q1 q2 q3 q4 hm hr hp hq hs st.sym st.at_ st.other x y (by omega) (by omega) gs g1 g2).mono ?_
        rintro e s' ⟨rfl,hsub⟩
        show DW _ _ _ _ _
        refine DW.sub hsub ?_
        dsimp only [eT4,sS,sQ]
        by_cases hh:(MR A r p q) x y=(r:Int)
        ·rw [decide_eq_true hh]
         have h1:=heq.1 hh
         rw [← hx,← hy] at h1
         have h2:=hhit st hneg hmem h1
         have hput:=kb_ (A:=A) (r:=r) (p:=p) (q:=q) (v:=((r:Nat):Int)+1) (by rw [h2];omega)
         refine DW.walkTo 27 ?_
         refine DW.sub (s':=⟨(sS n m r p q s SC),(eT4 rl n ta LR LB LT (MR A r p q))⟩) (by dsimp only [eT4,sS,sQ];exact Sub.auto) ?_
         refine (abq (by rfl) n m rl ta r q s p hN LR LB LT SC (MR A r p q) q1 q2 q3 q4 hm hr hp hq hs).mono ?_
         rintro e s' ⟨rfl,hsub⟩
         show DW _ _ _ _ _
         refine DW.sub hsub ?_
         dsimp only [eT4,sS,sQ]
         rw [hput]
         have x0:=zp (MR A r p (q+1)) 0;have x1:=zp (MR A r p (q+1)) 1;have x2:=zp (MR A r p (q+1)) 2;have x3:=zp (MR A r p (q+1)) 3;
         clear hsub hmiss hhit hgo hgs hin zp hb1 hb2 hkeep heq hput hh
         generalize hR0:mrow (MR A r p (q+1)) n 0=R0 at *;generalize hR1:mrow (MR A r p (q+1)) n 1=R1 at *;generalize hR2:mrow (MR A r p (q+1)) n 2=R2 at *;generalize hR3:mrow (MR A r p (q+1)) n 3=R3 at *;
         refine DW.walk ?_
         exact⟨(s+1,true),⟨by omega,(fun _=>h2),(fun h=>by cases h)⟩,by show m - (s+1)<m - s;omega,by show Sub _ _ ⟨(sS n m r p q (s+1) SC),(eT4 rl n ta LR LB LT (MR A r p (q+1)))⟩;dsimp only [eT4,sS,sQ];rw [hR0,hR1,hR2,hR3];exact Sub.auto⟩
        ·rw  [decide_eq_false hh]
         have h1:farK A r (an_ A st p) (an_ A st q)≠(r:Int):=fun h=>hh (heq.2 (by rw [← hx,← hy];exact h))
         have hb3:∀ z∈ss.take (s+1),farK A r (an_ A z p) (an_ A z q)≠(r:Int):=fun z hz=>by
            rw [List.take_add_one,hst] at hz
            rcases List.mem_append.1 hz with hz|hz
            ·exact hb z hz
            ·simp at hz;subst hz;exact h1
         clear hsub hmiss hhit hgo hgs hin zp hb1 hb2 hkeep heq hh
         generalize hR0:mrow (MR A r p q) n 0=R0 at *;generalize hR1:mrow (MR A r p q) n 1=R1 at *;generalize hR2:mrow (MR A r p q) n 2=R2 at *;generalize hR3:mrow (MR A r p q) n 3=R3 at *;
         refine DW.walk ?_
         exact⟨(s+1,false),⟨by omega,(fun h=>by cases h),(fun _=>hb3)⟩,by show m - (s+1)<m - s;omega,by show Sub _ _ ⟨(sS n m r p q (s+1) SC),(eT4 rl n ta LR LB LT (MR A r p q))⟩;dsimp only [eT4,sS,sQ];rw [hR0,hR1,hR2,hR3];exact Sub.auto⟩
   ·    rw [decide_eq_false hneg,hkeep (b2_ (by omega))]
        clear hsub hmiss hhit hgo hgs hin zp hb1 hb2 hkeep
        generalize mrow (MR A r p q) n 0=R0 at *;generalize mrow (MR A r p q) n 1=R1 at *;generalize mrow (MR A r p q) n 2=R2 at *;generalize mrow (MR A r p q) n 3=R3 at *;
        refine DW.walk ?_
        exact Nm.mk Sub.auto
  ·obtain rfl:s=m:=by omega
   have hall:∀ z∈ss,farK A r (an_ A z p) (an_ A z q)≠(r:Int):=fun z hz=>hb z (by rw [← hme,List.take_length];exact hz)
   have  hk2:farK A (r+1) p q=farK A r p q:=by
        by_cases hneg:farK A r p q<0
        ·exact hmiss hneg hall
        ·exact b2_ (by omega)
   rw [hkeep hk2]
   clear hmiss hhit hgo hgs hin zp hb1 hb2 hkeep hall hb
   generalize mrow (MR A r p q) n 0=R0 at *;generalize mrow (MR A r p q) n 1=R1 at *;generalize mrow (MR A r p q) n 2=R2 at *;generalize mrow (MR A r p q) n 3=R3 at *;
   refine DW.walk ?_
   exact Nm.mk Sub.auto
end Go.Proofs.Ytichhfbkhnimmaa
