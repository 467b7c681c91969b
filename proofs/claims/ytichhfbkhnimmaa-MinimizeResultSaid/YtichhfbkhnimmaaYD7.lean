/- Contracts over data: equal automata. No condition. -/
import Derived.Test.YtichhfbkhnimmaaYD5
set_option linter.unusedSimpArgs false
set_option linter.unusedVariables false
set_option maxHeartbeats 4000000
set_option maxRecDepth 8000
namespace Go.Proofs.Ytichhfbkhnimmaa
open Go Go.RowKit Go.PP Go.Dm Go.Rt Go.Mn
theorem aa5 (l r:List (List Int)) (hl:l.length≤1000000000) (hr:r.length≤1000000000) (hll:∀ x∈l,x.length≤1000000000) (hrl:∀ x∈r,x.length≤1000000000):DFun Try.prog 66 [.sl false 1 l.length (ag_ l),.sl false 1 r.length (ag_ r),.clo (.func 67) [] []] (.flat (.bool (decide (l=r)))):=by
 have hpl:∀ (i:Nat) (x:List Int),l[i]?=some x→partD false 1 (i*1) (ag_ l)=some (.sl false 1 x.length (x.map fun x=>D.flat (.int .i64 x))):=fun i x h=>c8_ h
 have hpr:∀ (i:Nat) (x:List Int),r[i]?=some x→partD false 1 (i*1) (ag_ r)=some (.sl false 1 x.length (x.map fun x=>D.flat (.int .i64 x))):=fun i x h=>c8_ h
 have hp1:=al_ l
 have hp2:=al_ r
 have heq:=fun (u v:List Int) (h1:u∈l) (h2:v∈r)=>aai u v (hll u h1) (hrl v h2)
 generalize ag_ l=LL at*
 generalize ag_ r=LX at*
 refine DFun.enterA Try.func66 Try.ntmps66 ?_
 by_cases hlr:l.length=r.length
 ·rw [←  hlr] at hr ⊢
  by_cases hd:∃ i:Nat,∃ x y,l[i]?=some x∧r[i]?=some y∧x≠y
  ·obtain⟨j,⟨x,y,h1,h2,hne⟩,h4⟩:=bf_ hd
   rw [decide_eq_false (fun e=>by rw [e,h2] at h1;exact hne (Option.some.inj h1).symm)]
   have hjl:=(List.getElem?_eq_some_iff.1 h1).1
   clear hd hll hrl
   refine DW.walk ?_
   refine DW.loopA (fun i:Nat=>⟨[(0,.sl false 1 l.length LL),(1,.sl false 1 l.length LX),(2,.clo (.func 67) [] []),(15,.sl false 1 l.length LL),(16,.flat (.int .i64 ((l.length:Nat):Int))),(17,.flat (.int .i64 ((i:Nat):Int)))],[]⟩) (fun i=>i≤j) (fun i=>j - i) 0 ?_ (Nat.zero_le _)
   intro i hi
   rcases Nat.lt_or_ge i j with hlt|hge
   ·    obtain⟨u,hu⟩:∃ u,l[i]?=some u:=⟨_,List.getElem?_eq_getElem (by omega)⟩
        obtain⟨v,hv⟩:∃ v,r[i]?=some v:=⟨_,List.getElem?_eq_getElem (by omega)⟩
        have huv:u=v:=Classical.byContradiction fun h=>h4 i hlt ⟨u,v,hu,hv,h⟩
        have q1:=hpl i u hu
        have q2:=hpr i v hv
        subst huv
        have q3:=heq u u (List.mem_of_getElem? hu) (List.mem_of_getElem? hv)
        rw [decide_eq_true rfl] at q3
        generalize (u.map fun x=>D.flat (.int .i64 x))=LU at*
        clear hpl hpr h1 h2 h4 hne hu hv heq
        refine DW.walk ?_
        exact⟨i+1,by omega,by omega,Sub.auto⟩
   ·    obtain rfl:i=j:=by omega
        have q1:=hpl i x h1
        have q2:=hpr i y h2
        have q3:=heq x y (List.mem_of_getElem? h1) (List.mem_of_getElem? h2)
        rw [decide_eq_false hne] at q3
        generalize (x.map fun x=>D.flat (.int .i64 x))=LU at*
        generalize (y.map fun x=>D.flat (.int .i64 x))=LV at*
        clear hpl hpr h1 h2 h4 heq hne
        refine DW.walk ?_
        exact⟨.inr rfl,ResOk.one [] rfl rfl trivial (Vw.pers rfl)⟩
  ·have   he:l=r:=List.ext_getElem? fun i=>by
        rcases Nat.lt_or_ge i l.length with h|h
        ·have e1:=List.getElem?_eq_getElem h
         have e2:=List.getElem?_eq_getElem (l:=r) (i:=i) (by omega)
         rw [e1,e2]
         exact congrArg some (Classical.byContradiction fun hn=>hd ⟨i,_,_,e1,e2,hn⟩)
        ·rw [List.getElem?_eq_none h,List.getElem?_eq_none (by omega)]
   rw [decide_eq_true he]
   subst he
   clear hd hlr hll hrl
   refine DW.walk ?_
   refine DW.loopA (fun i:Nat=>⟨[(0,.sl false 1 l.length LL),(1,.sl false 1 l.length LX),(2,.clo (.func 67) [] []),(15,.sl false 1 l.length LL),(16,.flat (.int .i64 ((l.length:Nat):Int))),(17,.flat (.int .i64 ((i:Nat):Int)))],[]⟩) (fun i=>i≤l.length) (fun i=>l.length - i) 0 ?_ (Nat.zero_le _)
   intro i hi
   rcases Nat.lt_or_ge i l.length with hlt|hge
   ·    obtain⟨u,hu⟩:∃ u,l[i]?=some u:=⟨_,List.getElem?_eq_getElem (by omega)⟩
        have q1:=hpl i u hu
        have q2:=hpr i u hu
        have q3:=heq u u (List.mem_of_getElem? hu) (List.mem_of_getElem? hu)
        rw [decide_eq_true rfl] at q3
        generalize (u.map fun x=>D.flat (.int .i64 x))=LU at*
        clear hpl hpr hu heq
        refine DW.walk ?_
        exact⟨i+1,by omega,by omega,Sub.auto⟩
   ·    obtain rfl:i=l.length:=by omega
        clear hpl hpr heq
        refine DW.walk ?_
        exact⟨.inr rfl,ResOk.one [] rfl rfl trivial (Vw.pers rfl)⟩
 ·rw [decide_eq_false (fun e=>hlr (by rw [e]))]
  clear hpl hpr heq hll hrl
  refine DW.walk ?_
  exact⟨.inr rfl,ResOk.one [] rfl rfl trivial (Vw.pers rfl)⟩
def eqB (A B:Au):Bool:=decide (A.r=B.r) && (decide (A.f=B.f) && decide (A.to=B.to))
theorem xm_ {A B:Au}:eqB A B=true↔A=B:=by
 obtain⟨r,f,t⟩:=A
 obtain⟨r2,f2,t2⟩:=B
 unfold eqB
 simp
theorem uu_ (A:Au):eqB A A=true:=xm_.2 rfl
theorem yc_ (A B:Au) (hA:Few A) (hB:Few B):DFun Try.prog 32 [auD A,auD B] (.flat (.bool (eqB A B))):=by
 have h1:=aci A.r B.r (by have:=hA.r;omega) (by have:=hB.r;omega)
 have h2:=aby A.f B.f (by have:=hA.f;omega) (by have:=hB.f;omega)
 have h3:=(aa5 A.to B.to (by have:=hA.t;omega) (by have:=hB.t;omega) (fun x h=>by have:=hA.l x h;omega) (fun x h=>by have:=hB.l x h;omega)).le (args':=[.sl false 1 A.to.length (ag_ A.to),.sl false 1 B.to.length (ag_ B.to),.flat (.func (.func 67) #[] #[])]) ⟨Le.refl _,Le.refl _,ov_ _,trivial⟩ (Le.refl _)
 unfold eqB
 generalize decide (A.r=B.r)=b1 at*
 generalize decide (A.f=B.f)=b2 at*
 generalize decide (A.to=B.to)=b3 at*
 clear hA hB
 obtain⟨rs,fs,tt⟩:=A
 obtain⟨rs2,fs2,tt2⟩:=B
 simp only [dj_] at*
 generalize (rs.map fun x=>D.flat (.int .i64 x))=LR at*
 generalize (fs.map fun x=>D.flat (.bool x))=LB at*
 generalize ag_ tt=LT at*
 generalize (rs2.map fun x=>D.flat (.int .i64 x))=LR2 at*
 generalize (fs2.map fun x=>D.flat (.bool x))=LB2 at*
 generalize ag_ tt2=LT2 at*
 refine DFun.enterA Try.func32 Try.ntmps32 ?_
 cases b1 with
 |false=>
  rw [Bool.false_and]
  refine DW.walk ?_
  exact⟨.inr rfl,ResOk.one [] rfl rfl trivial (Vw.pers rfl)⟩
 |true=>
  rw [Bool.true_and]
  cases b2 with
  |false=>
   rw [Bool.false_and]
   refine DW.walk ?_
   exact⟨.inr rfl,ResOk.one [] rfl rfl trivial (Vw.pers rfl)⟩
  |true=>
   rw [Bool.true_and]
   refine DW.walk ?_
   exact⟨.inr rfl,ResOk.one [] rfl rfl trivial (Vw.pers rfl)⟩
theorem wf_ {rs:List Int} {fs:List Bool} {tt:List (List Int)} {rs2:List Int} {fs2:List Bool} {tt2:List (List Int)} {LR LB LT LR2 LB2 LT2:List D} (hf:fs.length≤1000000) (ht:tt.length≤1000000) (hB:persL LB=true) (hB2:persL LB2=true) (hT:persL LT=true) (hT2:persL LT2=true)
  (hpb:∀ (i:Nat) (x:Bool),fs[i]?=some x→partD false 1 (i*1) LB=some (.flat (.bool x))) (hpb2:∀ (i:Nat) (x:Bool),fs2[i]?=some x→partD false 1 (i*1) LB2=some (.flat (.bool x)))
  (hpt:∀ (i:Nat) (x:List Int),tt[i]?=some x→partD false 1 (i*1) LT=some (.sl false 1 x.length (x.map fun x=>D.flat (.int .i64 x)))) (hpt2:∀ (i:Nat) (x:List Int),tt2[i]?=some x→partD false 1 (i*1) LT2=some (.sl false 1 x.length (x.map fun x=>D.flat (.int .i64 x))))
  (h62:∀ u v,u∈tt→v∈tt2→DFun Try.prog 62 [.sl false 1 u.length (u.map fun x=>D.flat (.int .i64 x)),.sl false 1 v.length (v.map fun x=>D.flat (.int .i64 x))] (.flat (.bool (decide (u=v)))))
  (h1:DFun Try.prog 62 [.sl false 1 rs.length LR,.sl false 1 rs2.length LR2] (.flat (.bool true))) (l1:fs.length=fs2.length) (l2:tt.length=tt2.length) (jf jt:Nat) (b:Bool)
  (hj:(∃ x y,fs[jf]?=some x∧fs2[jf]?=some y∧x≠y∧b=false)∨(jf=fs.length∧((∃ u v,tt[jt]?=some u∧tt2[jt]?=some v∧u≠v∧b=false)∨(jt=tt.length∧b=true))))
  (g1:∀ (i:Nat) x y,i<jf→fs[i]?=some x→fs2[i]?=some y→x=y) (g2:∀ (i:Nat) u v,i<jt→tt[i]?=some u→tt2[i]?=some v→u=v):DFun Try.prog 27 [.agg [.sl false 1 rs.length LR,.sl false 1 fs.length LB,.sl false 1 tt.length LT],.agg [.sl false 1 rs2.length LR2,.sl false 1 fs2.length LB2,.sl false 1 tt2.length LT2]] (.flat (.bool b)):=by
 have hjf:jf≤fs.length:=by
  rcases hj with⟨x,y,h,_⟩| ⟨h,_⟩
  ·have:=(List.getElem?_eq_some_iff.1 h).1;omega
  ·omega
 refine DFun.enterA Try.func27 Try.ntmps27 ?_
 refine DW.walk ?_
 refine DW.loopA (fun i:Nat=>⟨[(2,.ref 2 0),(3,.ref 3 0),(5,.flat (.int .i64 ((i:Nat):Int)))],[(2,some (.box [.sl false 1 rs.length LR,.sl false 1 fs.length LB,.sl false 1 tt.length LT])),(3,some (.box [.sl false 1 rs2.length LR2,.sl false 1 fs2.length LB2,.sl false 1 tt2.length LT2]))]⟩) (fun i=>i≤jf) (fun i=>jf - i) 0 ?_ (Nat.zero_le _)
 clear h1
 intro i hi
 rcases Nat.lt_or_ge i jf with hlt|hge
 ·obtain⟨x,hx⟩:∃ x,fs[i]?=some x:=⟨_,List.getElem?_eq_getElem (by omega)⟩
  obtain⟨y,hy⟩:∃ y,fs2[i]?=some y:=⟨_,List.getElem?_eq_getElem (by omega)⟩
  have hxy:=g1 i x y hlt hx hy
  have q1:=hpb i x hx
  have q2:=hpb2 i y hy
  subst hxy
  clear hpb hpb2 hpt hpt2 h62 hj g1 g2 hx hy
  cases x <;> (refine DW.walk ?_;exact⟨i+1,by omega,by omega,Sub.auto⟩)
 ·obtain  rfl:i=jf:=by omega
  rcases hj with⟨x,y,hx,hy,hne,rfl⟩| ⟨hjl,hj⟩
  ·have hil:=(List.getElem?_eq_some_iff.1 hx).1
   have q1:=hpb i x hx
   have q2:=hpb2 i y hy
   clear hpb hpb2 hpt hpt2 h62 g1 g2 hx hy
   cases x <;> cases y <;> first|exact absurd rfl hne|(clear hne;refine DW.walk ?_;exact⟨.inr rfl,ResOk.one [] rfl rfl trivial (Vw.pers rfl)⟩)
  ·clear  hpb hpb2 g1 hge hi
   have  hjt:jt≤tt.length:=by
        rcases hj with⟨x,y,h,_⟩| ⟨h,_⟩
        ·have:=(List.getElem?_eq_some_iff.1 h).1;omega
        ·omega
   refine DW.walk ?_
   refine DW.loopA (fun i:Nat=>⟨[(2,.ref 2 0),(3,.ref 3 0),(6,.flat (.int .i64 ((i:Nat):Int)))],[(2,some (.box [.sl false 1 rs.length LR,.sl false 1 fs.length LB,.sl false 1 tt.length LT])),(3,some (.box [.sl false 1 rs2.length LR2,.sl false 1 fs2.length LB2,.sl false 1 tt2.length LT2]))]⟩) (fun i=>i≤jt) (fun i=>jt - i) 0 ?_ (Nat.zero_le _)
   intro k hk
   rcases Nat.lt_or_ge k jt with hlt|hge
   ·    obtain⟨u,hu⟩:∃ u,tt[k]?=some u:=⟨_,List.getElem?_eq_getElem (by omega)⟩
        obtain⟨v,hv⟩:∃ v,tt2[k]?=some v:=⟨_,List.getElem?_eq_getElem (by omega)⟩
        have huv:=g2 k u v hlt hu hv
        have q1:=hpt k u hu
        have q2:=hpt2 k v hv
        have q3:=h62 u v (List.mem_of_getElem? hu) (List.mem_of_getElem? hv)
        subst huv
        rw [decide_eq_true rfl] at q3
        generalize (u.map fun x=>D.flat (.int .i64 x))=LU at*
        clear hpt hpt2 h62 hj g2 hu hv
        refine DW.walk ?_
        exact⟨k+1,by omega,by omega,Sub.auto⟩
   ·    obtain rfl:k=jt:=by omega
        rcases hj with⟨u,v,hu,hv,hne,rfl⟩| ⟨hjl2,rfl⟩
        ·have hkl:=(List.getElem?_eq_some_iff.1 hu).1
         have q1:=hpt k u hu
         have q2:=hpt2 k v hv
         have q3:=h62 u v (List.mem_of_getElem? hu) (List.mem_of_getElem? hv)
         rw [decide_eq_false hne] at q3
         generalize (u.map fun x=>D.flat (.int .i64 x))=LU at*
         generalize (v.map fun x=>D.flat (.int .i64 x))=LV at*
         clear hpt hpt2 h62 g2 hu hv hne
         refine DW.walk ?_
         exact⟨.inr rfl,ResOk.one [] rfl rfl trivial (Vw.pers rfl)⟩
        ·clear hpt hpt2 h62 g2
         refine DW.walk ?_
         exact⟨.inr rfl,ResOk.one [] rfl rfl trivial (Vw.pers rfl)⟩
open Classical in
theorem ps_ (A B : Au) (hA:Few A) (hB:Few B):DFun Try.prog 27 [auD A,auD B] (.flat (.bool (eqB A B))):=by
  have h1:=wk_ A.r B.r (by have:=hA.r;omega) (by have:=hB.r;omega)
  have h62:=fun (u v:List Int) (h1:u∈A.to) (h2:v∈B.to)=>wk_ u v (by have:=hA.l u h1;omega) (by have:=hB.l v h2;omega)
  obtain⟨a1,a2,a3,a4⟩:=hA
  obtain⟨b1,b2,b3,b4⟩:=hB
  unfold eqB
  obtain⟨rs,fs,tt⟩:=A
  obtain⟨rs2,fs2,tt2⟩:=B
  simp only [dj_] at*
  by_cases hr:rs=rs2
  · by_cases l1 : fs.length=fs2.length
    · by_cases l2 :tt.length=tt2.length
      · rw [decide_eq_true hr] at h1
        refine wf_ (jf:=if h:∃ i:Nat,∃ x y,fs[i]?=some x∧fs2[i]?=some y∧x≠y then Classical.choose (bf_ h) else fs.length) (jt:=if h:∃ i:Nat,∃ x y,tt[i]?=some x∧tt2[i]?=some y∧x≠y then Classical.choose (bf_ h) else tt.length) a2 a3 (ai_ fs) (ai_ fs2) (al_ tt) (al_ tt2) (fun i x h=>dy_ h) (fun i x h=>dy_ h) (fun i x h=>c8_ h) (fun i x h=>c8_ h) h62 h1 l1 l2 _ ?_ ?_ ?_
        · by_cases hd:∃ i:Nat,∃ x y,fs[i]?=some x∧fs2[i]?=some y∧x≠y
          · rw [dif_pos hd]
            obtain⟨x,y,q1,q2,q3⟩:=(Classical.choose_spec (bf_ hd)).1
            refine .inl ⟨x,y,q1,q2,q3,?_⟩
            rw [decide_eq_false (show ¬ fs=fs2 from fun e=>by subst e;rw [q1] at q2;exact q3 (Option.some.inj q2)),Bool.false_and,Bool.and_false]
          · rw [dif_neg hd]
            refine .inr ⟨rfl,?_⟩
            have he:fs=fs2:=List.ext_getElem? fun i=>by
              rcases Nat.lt_or_ge i fs.length with h|h
              · have e1:=List.getElem?_eq_getElem h
                have e2:=List.getElem?_eq_getElem (l:=fs2) (i:=i) (by omega)
                rw [e1,e2]
                exact congrArg some (Classical.byContradiction fun hn=>hd ⟨i,_,_,e1,e2,hn⟩)
              ·rw [List.getElem?_eq_none h,List.getElem?_eq_none (by omega)]
            by_cases hd2:∃ i:Nat,∃ x y,tt[i]?=some x∧tt2[i]?=some y∧x≠y
            · rw [dif_pos hd2]
              obtain⟨x,y,q1,q2,q3⟩:=(Classical.choose_spec (bf_ hd2)).1
              refine .inl ⟨x,y,q1,q2,q3,?_⟩
              rw [decide_eq_false (show ¬ tt=tt2 from fun e=>by subst e;rw [q1] at q2;exact q3 (Option.some.inj q2)),Bool.and_false,Bool.and_false]
            · rw [dif_neg hd2]
              have he2:tt=tt2:=List.ext_getElem? fun i=>by
                rcases Nat.lt_or_ge i tt.length with h|h
                · have e1:=List.getElem?_eq_getElem h
                  have e2:=List.getElem?_eq_getElem (l:=tt2) (i:=i) (by omega)
                  rw [e1,e2]
                  exact congrArg some (Classical.byContradiction fun hn=>hd2 ⟨i,_,_,e1,e2,hn⟩)
                ·rw [List.getElem?_eq_none h,List.getElem?_eq_none (by omega)]
              refine .inr ⟨rfl,?_⟩
              rw [decide_eq_true hr,decide_eq_true he,decide_eq_true he2];rfl
        · intro i x y hi q1 q2
          split at hi
          · rename_i hd
            exact Classical.byContradiction fun hn=>(Classical.choose_spec (bf_ hd)).2 i hi ⟨x,y,q1,q2,hn⟩
          · rename_i hd
            exact Classical.byContradiction fun hn=>hd ⟨i,x,y,q1,q2,hn⟩
        · intro i x y hi q1 q2
          split at hi
          · rename_i hd
            exact Classical.byContradiction fun hn=>(Classical.choose_spec (bf_ hd)).2 i hi ⟨x,y,q1,q2,hn⟩
          · rename_i hd
            exact Classical.byContradiction fun hn=>hd ⟨i,x,y,q1,q2,hn⟩
      · rw [decide_eq_false (show ¬ tt=tt2 from fun e=>l2 (by rw [e])),Bool.and_false,Bool.and_false]
        rw [decide_eq_true hr] at h1
        clear h62
        generalize (rs.map fun x=>D.flat (.int .i64 x))=LR at*
        generalize (fs.map fun x=>D.flat (.bool x))=LB at*
        generalize ag_ tt=LT at*
        generalize (rs2.map fun x=>D.flat (.int .i64 x))=LR2 at*
        generalize (fs2.map fun x=>D.flat (.bool x))=LB2 at*
        generalize ag_ tt2=LT2 at*
        refine DFun.enterA Try.func27 Try.ntmps27 ?_
        refine DW.walk ?_
        exact⟨.inr rfl,ResOk.one [] rfl rfl trivial (Vw.pers rfl)⟩
    · rw [decide_eq_false (show ¬ fs=fs2 from fun e=>l1 (by rw [e])),Bool.false_and,Bool.and_false]
      rw [decide_eq_true hr] at h1
      clear h62
      generalize (rs.map fun x=>D.flat (.int .i64 x))=LR at*
      generalize (fs.map fun x=>D.flat (.bool x))=LB at*
      generalize ag_ tt=LT at*
      generalize (rs2.map fun x=>D.flat (.int .i64 x))=LR2 at*
      generalize (fs2.map fun x=>D.flat (.bool x))=LB2 at*
      generalize ag_ tt2=LT2 at*
      refine DFun.enterA Try.func27 Try.ntmps27 ?_
      refine DW.walk ?_
      exact⟨.inr rfl,ResOk.one [] rfl rfl trivial (Vw.pers rfl)⟩
  · rw [decide_eq_false hr,Bool.false_and]
    rw [decide_eq_false hr] at h1
    clear h62
    generalize (rs.map fun x=>D.flat (.int .i64 x))=LR at*
    generalize (fs.map fun x=>D.flat (.bool x))=LB at*
    generalize ag_ tt=LT at*
    generalize (rs2.map fun x=>D.flat (.int .i64 x))=LR2 at*
    generalize (fs2.map fun x=>D.flat (.bool x))=LB2 at*
    generalize ag_ tt2=LT2 at*
    refine DFun.enterA Try.func27 Try.ntmps27 ?_
    refine DW.walk ?_
    exact⟨.inr rfl,ResOk.one [] rfl rfl trivial (Vw.pers rfl)⟩
theorem bk_ {cs:List D} {i:Nat} {x:D} (h:i<cs.length):spliceD cs i [x]=cs.set i x:=by
 rw [List.set_eq_take_append_cons_drop,if_pos h]
 simp [spliceD]
theorem r2_ {n i:Nat} (hi:i<n) (out:List Int):spliceD ((isB n out).map fun x=>D.flat (.bool x)) i [.flat (.bool true)]=(isB n (out++ [(i:Int)])).map fun x=>D.flat (.bool x):=by
 have hl:((isB n out).map fun x=>D.flat (.bool x)).length=n:=by simp [d5_]
 rw [bk_ (by omega)]
 refine List.ext_getElem? fun j=>?_
 rw [List.getElem?_set,List.getElem?_map,List.getElem?_map]
 by_cases hij:i=j
 ·subst hij
  rw [if_pos rfl,if_pos (by omega),ff_ hi]
  simp
 ·rw [if_neg hij]
  by_cases hj:j<n
  ·rw [ff_ hj,ff_ hj]
   have:¬ (j:Int)=(i:Int):=by omega
   simp [this]
  ·rw [List.getElem?_eq_none (by rw [d5_];omega),List.getElem?_eq_none (by rw [d5_];omega)]
theorem t0_ {P:Program} {k:FuncId} {args args':List D} {pe we:Sg} {d d':D} (h:DLend P k args pe we d) (ha:LeL args' args) (hd:Le d d'):DLend P k args' pe we d':= .intro fun M0 g w vals hM hh hv hgl=>by
 refine (h.go M0 g w vals hM hh (LeL.rep (fun b hb=>?_) ha hv) hgl).mono fun e w' ⟨v,g',h1,h2,h3,h4,h5,h6⟩=>⟨v,g',h1,h2,h3,h4,h5,hd _ _ _ _ (fun b hb=>?_) h6⟩
 ·rcases hb with hb| ⟨id,hb⟩
  ·exact hM b hb
  ·exact (hh.new id b hb).1
 ·rcases hb with hb| ⟨id,hb⟩
  ·exact Nat.lt_of_lt_of_le (hM b hb) h2.size
  ·exact (h4.new id b hb).1
def fnB (A:Au) (out:List Int):Sg:=[(54526080000003,some (.box [.own 54526080000004 A.f.length])),(54526080000004,some (.row 4 1 A.f.length ((isB A.f.length out).map fun x=>D.flat (.bool x)))),(54526080000005,some (.box [.own 54526080000006 out.length])),(54526080000006,some (.row 3 1 out.length (out.map fun x=>D.flat (.int .i64 x))))]
def lsB (A:Au) (sym:Int) (n:Nat) (of:List Int):Sg:=[(53687091200003,some (.box [.flat (.int .i64 ((n:Nat):Int))])),(53687091200004,some (.box [.sl false 1 of.length (of.map fun x=>D.flat (.int .i64 x))])),(53687091200005,some (.box [.clo (.func 107) [] [.ptr (auC A) 0,.ptr [.flat (.int .i64 sym)] 0,.ref 54526080000003 0,.ref 54526080000005 0]])),
 (53687091200006,some (.box [.clo (.func 124) [] [.ref 53687091200003 0,.ref 53687091200005 0,.ref 53687091200004 0,.ref 53687091200006 0]]))]
theorem vx_ (A:Au) (hok:AuOk A) (sym:Int) (l:List Int) (hf:Fits A sym l) (out:List Int) (ho:out.length≤1000000):
  DLend Try.prog 107 [.sl false 1 l.length (l.map fun x=>D.flat (.int .i64 x)),.ptr (auC A) 0,.ptr [.flat (.int .i64 sym)] 0,.ref 54526080000003 0,.ref 54526080000005 0] (fnB A out) (fnB A (a7_ A sym out l)) (.tup []):=by
 obtain⟨i,hi,hin⟩:∃ i:Nat,atI A sym l=(i:Int)∧i<A.f.length:=by
  have h:=pv_ hok hf
  exact⟨(atI A sym l).toNat,by omega,by omega⟩
 have hat:=afj A hok sym l hf
 rw [hi] at hat
 have hp:=dy_ (ff_ hin out)
 have hlen:((isB A.f.length out).map fun x=>D.flat (.bool x)).length=A.f.length:=by simp [d5_]
 have hpo:=ad_ out
 have hpl:=ad_ l
 unfold fnB
 rw [au_] at hat
 rw [d0_]
 generalize (A.r.map fun x=>D.flat (.int .i64 x))=LR at*
 generalize (A.f.map fun x=>D.flat (.bool x))=LB at*
 generalize ag_ A.to=LT at*
 generalize (l.map fun x=>D.flat (.int .i64 x))=LL at*
 by_cases hm:(i:Int)∈out
 ·have hst:a7_ A sym out l=out:=by unfold a7_;rw [hi,if_pos hm]
  rw [decide_eq_true hm] at hp
  rw [hst]
  have hpb:=ai_ (isB A.f.length out)
  generalize ((isB A.f.length out).map fun x=>D.flat (.bool x))=LI at*
  generalize (out.map fun x=>D.flat (.int .i64 x))=LO at*
  clear hf hok hi hm hst
  refine DLend.enterA Try.func107 Try.ntmps107 ?_
  refine DW.walk ?_
  exact⟨.inl rfl,ResL.unitA⟩
 ·have hst:a7_ A sym out l=out++ [(i:Int)]:=by unfold a7_;rw [hi,if_neg hm]
  rw [decide_eq_false hm] at hp
  have hset:List.take (i*1) ((isB A.f.length out).map fun x=>D.flat (.bool x))++ [D.flat (.bool true)]++List.drop (i*1+1) ((isB A.f.length out).map fun x=>D.flat (.bool x))=(isB A.f.length (out++ [(i:Int)])).map fun x=>D.flat (.bool x):=by
   rw [Nat.mul_one]
   exact r2_ hin out
  have ho2:(out.map fun x=>D.flat (.int .i64 x))++ [.flat (.int .i64 (i:Int))]=((out++ [(i:Int)]).map fun x=>D.flat (.int .i64 x)):=by simp
  have hpo2:=ad_ (out++ [(i:Int)])
  have hol:(out++ [(i:Int)]).length=out.length+1:=by simp
  rw [hst]
  have hpb:=ai_ (isB A.f.length (out++ [(i:Int)]))
  have hpb0:=ai_ (isB A.f.length out)
  rw [hol]
  generalize ((isB A.f.length (out++ [(i:Int)])).map fun x=>D.flat (.bool x))=LI2 at*
  generalize ((isB A.f.length out).map fun x=>D.flat (.bool x))=LI at*
  generalize ((out++ [(i:Int)]).map fun x=>D.flat (.int .i64 x))=LO2 at*
  generalize (out.map fun x=>D.flat (.int .i64 x))=LO at*
  clear hf hok hi hm hst hol
  refine DLend.enterA Try.func107 Try.ntmps107 ?_
  refine DW.walk ?_
  exact⟨.inl rfl,ResL.unitA⟩
theorem b0_ (l:List Int):oneL (l.map fun x=>D.flat (.int .i64 x))=true:=gu_ (fun _=>rfl) _
theorem uo_ (id:Nat) (hid:id=23∨id=20) (l:List Int) (hl:l.length≤1000000):
  DLend Try.prog 78 [.sl false 1 l.length (l.map fun x=>D.flat (.int .i64 x))] [(id,none)] [(id,some (.row 3 1 l.length (l.map fun x=>D.flat (.int .i64 x))))] (.own id l.length):=by
 have h5:=IdAt.of 5 id
 have ho:=b0_ l
 have hp:=ad_ l
 by_cases h0:l=[]
 ·subst  h0
  rcases hid with rfl|rfl
  all_goals
   refine DLend.enterA Try.func78 Try.ntmps78 ?_
   refine DW.adj ?_
   refine DW.flatten 0 rfl ?_
   intro a cap
   cases a with
   |    none=>
        refine DW.walk ?_
        exact⟨_,Sub.adoptA h5 2 3 1,.inr rfl,ResL.oneA⟩
   |    some a=>
        refine DW.walk ?_
        exact⟨_,Sub.refl _ _,.inr rfl,ResL.oneA⟩
 ·have:0<l.length:=List.length_pos_iff.2 h0
  rcases hid with rfl|rfl
  all_goals
   refine DLend.enterA Try.func78 Try.ntmps78 ?_
   refine DW.walk ?_
   exact⟨.inr rfl,ResL.oneA⟩
theorem vm_ (l:List Int) (hl:l.length≤1000000):
  DLend Try.prog 78 [.own 54526080000006 l.length] [(20,none),(54526080000006,some (.row 3 1 l.length (l.map fun x=>D.flat (.int .i64 x))))] [(20,some (.row 3 1 l.length (l.map fun x=>D.flat (.int .i64 x)))),(54526080000006,some (.row 3 1 l.length (l.map fun x=>D.flat (.int .i64 x))))] (.own 20 l.length):=by
 have h5:=IdAt.of 5 20
 have ho:=b0_ l
 have hp:=ad_ l
 by_cases h0:l=[]
 ·subst h0
  refine DLend.enterA Try.func78 Try.ntmps78 ?_
  refine DW.adj ?_
  refine DW.flattenO 0 rfl ?_
  intro a cap
  cases a with
  |none=>
   refine DW.walk ?_
   exact⟨_,Sub.adoptA h5 2 3 1,.inr rfl,ResL.oneA⟩
  |some a=>
   refine DW.walk ?_
   exact⟨_,Sub.refl _ _,.inr rfl,ResL.oneA⟩
 ·have:0<l.length:=List.length_pos_iff.2 h0
  refine DLend.enterA Try.func78 Try.ntmps78 ?_
  refine DW.walk ?_
  exact⟨.inr rfl,ResL.oneA⟩
theorem wc_ (A:Au) (hok:AuOk A) (sym:Int) (hs0:0≤sym) (hs1:sym<A.r.length) (n:Nat) (hn:A.r.getD sym.toNat 0=(n:Int)) (hn2:n≤2) (of:List Int) (hof:∀ x∈of,0≤x∧x<(A.f.length:Int)) (hofl:of.length≤512):
  ∀ (m:Nat) (l:List Int),l.length+m=n→(∀ x∈l,0≤x∧x<(A.f.length:Int))→ ∀ (out:List Int),OutOk A out→
  DLend Try.prog 124 [.sl false 1 l.length (l.map fun x=>D.flat (.int .i64 x)),.ref 53687091200003 0,.ref 53687091200005 0,.ref 53687091200004 0,.ref 53687091200006 0] (fnB A out++lsB A sym n of) (fnB A (bl_ A sym (bh_ of m l) out)++lsB A sym n of) (.tup []):=by
 intro m
 induction m with
 |zero=>
  intro l hl hr out ho
  have hf:Fits A sym l:=⟨hs0,hs1,by omega,hr⟩
  have hlen:=ho.len
  have hA:=hok.hi
  have hc:=vx_ A hok sym l hf out (by omega)
  have hgl:out.length≤(a7_ A sym out l).length:=by unfold a7_;split <;> simp
  have hst:bl_ A sym (bh_ of 0 l) out=a7_ A sym out l:=rfl
  rw [hst]
  unfold fnB lsB at*
  refine DLend.enterA Try.func124 Try.ntmps124 ?_
  have q1:=ai_ (isB A.f.length out)
  have q2:=ad_ out
  have q3:=ai_ (isB A.f.length (a7_ A sym out l))
  have q4:=ad_ (a7_ A sym out l)
  have q5:=ad_ l
  have q6:=ad_ of
  refine DW.walk ?_
  exact⟨.inr rfl,ResL.unitA⟩
 |succ   m ih=>
  intro l hl hr out ho
  have hA:=hok.hi
  have hok2:∀ j,OutOk A (bl_ A sym ((of.take j).flatMap fun s=>bh_ of m (l++ [s])) out):=fun j=>by
   refine OutOk.all hok (fun x hx=>?_) ho
   obtain⟨y,hy,hx⟩:=List.mem_flatMap.1 hx
   refine c2_ hs0 hs1 hof m (l++ [y]) (by rw [hn];simp;omega) (fun z hz=>?_) x hx
   rcases List.mem_append.1 hz with hz|hz
   ·exact hr z hz
   ·simp at hz;subst hz;exact hof _ (List.mem_of_mem_take hy)
  have hmono:out.length≤(bl_ A sym (bh_ of (m+1) l) out).length:=by
   generalize bh_ of (m+1) l=ls
   clear hok2 ho
   induction ls generalizing out with
   |nil=>exact Nat.le_refl _
   |cons x r ihr=>exact Nat.le_trans (by unfold a7_;split <;> simp) (ihr (a7_ A sym out x))
  have hfin:bl_ A sym (bh_ of (m+1) l) out=bl_ A sym ((of.take of.length).flatMap fun s=>bh_ of m (l++ [s])) out:=by rw [List.take_length];rfl
  unfold fnB lsB
  refine DLend.enterA Try.func124 Try.ntmps124 ?_
  refine DW.walk ?_
  refine DW.loopA (fun j:Nat=>⟨[(0,.sl false 1 l.length (l.map fun x=>D.flat (.int .i64 x))),(1,.ref 53687091200003 0),(2,.ref 53687091200005 0),(3,.ref 53687091200004 0),(4,.ref 53687091200006 0),(15,.sl false 1 of.length (of.map fun x=>D.flat (.int .i64 x))),(16,.flat (.int .i64 ((of.length:Nat):Int))),(17,.flat (.int .i64 ((j:Nat):Int)))],
   fnB A (bl_ A sym ((of.take j).flatMap fun s=>bh_ of m (l++ [s])) out)++lsB A sym n of⟩) (fun j=>j≤of.length) (fun j=>of.length - j) 0 ?_ (by omega) (by unfold fnB lsB;exact Sub.auto)
  intro j hj
  rcases Nat.lt_or_ge j of.length with hlt|hge
  ·obtain⟨y,hy⟩:∃ y,of[j]?=some y:=⟨of[j],by simp⟩
   have hp:=as_ hy
   have hc:=uo_ 23 (.inl rfl) l (by omega)
   have hyr:=hof y (List.mem_of_getElem? hy)
   have  hi:=ih (l++ [y]) (by simp;omega) (fun z hz=>by
        rcases List.mem_append.1 hz with hz|hz
        ·exact hr z hz
        ·simp at hz;subst hz;exact hyr) _ (hok2 j)
   have  hnext:bl_ A sym (bh_ of m (l++ [y])) (bl_ A sym ((of.take j).flatMap fun s=>bh_ of m (l++ [s])) out)=bl_ A sym ((of.take (j+1)).flatMap fun s=>bh_ of m (l++ [s])) out:=by
        rw [← q6_,List.take_add_one,hy];simp
   have he:D.sl false 1 (l++ [y]).length ((l++ [y]).map fun x=>D.flat (.int .i64 x))= .sl false 1 (l.length+1) (l.map (fun x=>D.flat (.int .i64 x))++ [.flat (.int .i64 y)]):=by simp
   rw [hnext,he] at hi
   unfold fnB lsB at hi
   unfold fnB lsB
   refine DW.walk ?_
   refine DC.t (T.lendC (ar:=[_]) (ds':=[_]) [(23,some (.row 3 1 (l.length+1) (l.map (fun x=>D.flat (.int .i64 x))++ [.flat (.int .i64 y)])))] EntC.h hi rfl
        (by exact⟨Vg.give (fun id h=>by simp [keys] at h;subst h;rfl) (Vw.own (List.mem_cons_self ..) (VwL.pers (bv_ (af_ (fun _=>rfl) _) rfl))),Vg.of (Vl.ref rfl),Vg.of (Vl.ref rfl),Vg.of (Vl.ref rfl),Vg.of (Vl.ref rfl),trivial⟩) rfl rfl rfl (abb rfl)
        (EsG.of ⟨⟨Vl.own rfl,trivial⟩,VlL.pers (af_ (fun _=>rfl) _),⟨Vl.own rfl,trivial⟩,VlL.pers (af_ (fun _=>rfl) _),VlL.pers rfl,VlL.pers rfl,⟨Vl.clo trivial ⟨Vl.pers rfl,Vl.pers rfl,Vl.ref rfl,Vl.ref rfl,trivial⟩,trivial⟩,⟨Vl.clo trivial ⟨Vl.ref rfl,Vl.ref rfl,Vl.ref rfl,Vl.ref rfl,trivial⟩,trivial⟩,trivial⟩)) ⟨rfl,rfl,trivial⟩ ⟨rfl,rfl,rfl,rfl,rfl,rfl,rfl,rfl,rfl,trivial⟩ ?_
   refine DC.walk ?_
   exact⟨j+1,by omega,by omega,Sub.auto⟩
  ·have:j=of.length:=by omega
   subst this
   rw [hfin]
   unfold fnB lsB
   refine DW.walk ?_
   exact⟨.inl rfl,ResL.unitA⟩
theorem jo_ (A:Au) (s:Int):∀ (ls:List (List Int)) (out:List Int),out.length≤(bl_ A s ls out).length
 | [],out=>Nat.le_refl _
 |x::r,out=>Nat.le_trans (by unfold a7_;split <;> simp) (jo_ A s r (a7_ A s out x))
theorem xh_ (A:Au) (hok:AuOk A) (sym:Int) (hs0:0≤sym) (hs1:sym<A.r.length) (n:Nat) (hn:A.r.getD sym.toNat 0=(n:Int)) (hn2:n≤2) (of:List Int) (hof:∀ x∈of,0≤x∧x<(A.f.length:Int)) (hofl:of.length≤512) (out:List Int) (ho:OutOk A out):
  DLend Try.prog 106 [.flat (.int .i64 ((n:Nat):Int)),.sl false 1 of.length (of.map fun x=>D.flat (.int .i64 x)),.clo (.func 107) [] [.ptr (auC A) 0,.ptr [.flat (.int .i64 sym)] 0,.ref 54526080000003 0,.ref 54526080000005 0]] (fnB A out) (fnB A (bl_ A sym (bh_ of n []) out)) (.tup []):=by
 have hi:=t0_ (args':=[.flat (.slice none 0 0),.ref 53687091200003 0,.ref 53687091200005 0,.ref 53687091200004 0,.ref 53687091200006 0]) (wc_ A hok sym hs0 hs1 n hn hn2 of hof hofl n [] (by simp) (by simp) out ho) ⟨Le.nil _ _,Le.refl _,Le.refl _,Le.refl _,Le.refl _,trivial⟩ (Le.refl _)
 have q1:=ai_ (isB A.f.length out)
 have q2:=ad_ out
 have q3:=ai_ (isB A.f.length (bl_ A sym (bh_ of n []) out))
 have q4:=ad_ (bl_ A sym (bh_ of n []) out)
 have hmono:=jo_ A sym (bh_ of n []) out
 have h3:=IdAt.of 3 53687091200003
 have h4:=IdAt.of 4 53687091200004
 have h5:=IdAt.of 5 53687091200005
 have h6:=IdAt.of 6 53687091200006
 have hpo:=ad_ of
 unfold fnB lsB at hi
 unfold fnB
 refine DLend.enterA Try.func106 Try.ntmps106 ?_
 refine DW.walk ?_
 exact⟨.inl rfl,ResL.unitA⟩
end Go.Proofs.Ytichhfbkhnimmaa
