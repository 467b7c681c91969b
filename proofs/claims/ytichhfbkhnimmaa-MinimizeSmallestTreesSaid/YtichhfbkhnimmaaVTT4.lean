/- Smallest trees: one state. No condition. -/
import Derived.Test.YtichhfbkhnimmaaVTT2
set_option linter.unusedSimpArgs false
set_option linter.unusedVariables false
set_option maxHeartbeats 4000000
set_option maxRecDepth 8000
namespace Go.Proofs.Ytichhfbkhnimmaa
open Go Go.RowKit Go.PP Go.Dm Go.Rt Go.Mn
theorem abj {cc:Code} (hsel:selC [1,1,1,1,1,1,1,1,0,1,2,2] is_=some cc) (A:Au) (hk:chk A=0) (sz:Nat→Nat) (hz:SizeOk A sz) (L:Nat) (g:Nat→Nat) (hL:L≤A.f.length) (hg:∀ x,x<L→g x<A.f.length) (hg4:∀ x,x<L→sz (g x)<4097) (hinj:∀ x y,x<L→y<L→g x=g y→x=y) (hall:∀ x,x<A.f.length→sz x<4097→ ∃ j,j<L∧g j=x) (hsrt:SrtF sz g (L - 1)) (m:Nat) (hm:m<L) (TL:List Tr) (IS:List Bool) (hI:TInv A g A.f.length TL IS m):
  DW Try.prog 112 cc ⟨[(1,.ref 1 0),(7,.ptr [.sl false 1 A.f.length ((szL A.f.length sz).map fun x=>D.flat (.int .i64 x))] 0),(8,.own 129807421463370690713262408230502400004 A.f.length),(9,.own 31 A.f.length),(49,.sl false 1 L ((szL L g).map fun x=>D.flat (.int .i64 x))),(50,.flat (.int .i64 ((L:Nat):Int))),(51,.flat (.int .i64 ((m:Nat):Int)))],[(1,some (.box [.sl false 1 A.r.length (A.r.map fun x=>D.flat (.int .i64 x)),.sl false 1 A.f.length (A.f.map fun x=>D.flat (.bool x)),.sl false 1 A.to.length (aj_ A.to)])),(129807421463370690713262408230502400004,some (.row 78 2 A.f.length (ae_ TL))),(31,some (.row 4 1 A.f.length (bC IS)))]⟩ (fun e s'=> ∃ b,Best A (g m:Int) b∧Nm 112 ⟨[(1,.ref 1 0),(7,.ptr [.sl false 1 A.f.length ((szL A.f.length sz).map fun x=>D.flat (.int .i64 x))] 0),(8,.own 129807421463370690713262408230502400004 A.f.length),(9,.own 31 A.f.length),(49,.sl false 1 L ((szL L g).map fun x=>D.flat (.int .i64 x))),(50,.flat (.int .i64 ((L:Nat):Int))),(51,.flat (.int .i64 (((m+1):Nat):Int)))],[(1,some (.box [.sl false 1 A.r.length (A.r.map fun x=>D.flat (.int .i64 x)),.sl false 1 A.f.length (A.f.map fun x=>D.flat (.bool x)),.sl false 1 A.to.length (aj_ A.to)])),(129807421463370690713262408230502400004,some (.row 78 2 A.f.length (ae_ (TL.set (g m) b)))),(31,some (.row 4 1 A.f.length (bC (IS.set (g m) true))))]⟩ e s'):=by
 have hok:=a6_ hk
 have hs:=hg m hm
 have hB:∀ x,x<A.f.length→sz x<sz (g m)→Best A (x:Int) (TL.getD x (.node 0 [])):=fun x hx hlt=>by
  obtain⟨j,hj,rfl⟩:=hall x hx (by have:=hg4 m hm;omega)
  have hjm:j<m:=by
   rcases Nat.lt_trichotomy j m with h|h|h
   ·exact h
   ·subst h;omega
   ·have:=hsrt m j h (by omega);omega
  exact (hI.yes j hjm).1
 obtain⟨b,hb⟩:=(hz.ex hs).1 (hg4 m hm)
 obtain⟨y,hy,hbm,h0,hle⟩:=s7_ hok hz hs (by have:=hg4 m hm;omega) hB hb
 have hsz4:∀ x,x<A.f.length→sz x≤4097:=hz.in_.le
 have hcd:=yo_ A hok sz hsz4 TL hI.lt (g m) y hs hy h0 (fun e=>by rw [e] at hbm;cases hbm)
 have hreach:=fun t ht=>g5_ hok hz hs (by have:=hg4 m hm;omega) hB hy (t:=t) ht
 have hns:IS.getD (g m) false=false:=(hI.no (g m) hs fun j hj e=>by have:=hinj _ _ (by omega) hm e;omega).2
 have hC0:CInv TL IS (g m) (ec_ A sz (fun x=>TL.getD x (.node 0 [])) (g m) y) 0 TL IS:=⟨.inl ⟨rfl,rfl,rfl⟩⟩
 have hTl:=hI.lt
 have hIl:=hI.li
 have hCm:∀ t∈(ec_ A sz (fun x=>TL.getD x (.node 0 [])) (g m) y),TSm t:=fun t ht=>cw_ 4096 t (hreach t ht).1.z (by decide)
 generalize hC:(ec_ A sz (fun x=>TL.getD x (.node 0 [])) (g m) y)=C at*
 have hCl:C.length≤1000000:=by
  have h1:=c1_ A sz (fun x=>TL.getD x (.node 0 [])) (g m) y (rowN A y).length
  rw [m7_,hC] at h1
  obtain⟨w1,_,_⟩:=bq_ hok hy
  have:=(bj_ hok).l _ (List.mem_of_getElem? w1)
  omega
 have hTm:∀ T1 I1 i,CInv TL IS (g m) C i T1 I1→i≤C.length→TSm (T1.getD (g m) (.node 0 []))∧T1.length=A.f.length∧I1.length=A.f.length:=fun T1 I1 i h hi=>by
  rcases h.h with⟨_,rfl,rfl⟩| ⟨t,h1,_,rfl,rfl⟩
  ·refine⟨?_,hTl,hIl⟩
   rw [(hI.no (g m) hs fun j hj e=>by have:=hinj _ _ (by omega) hm e;omega).1]
   exact cw_ 1 _ (by rw [aq_];exact Nat.le_refl _) (by decide)
  ·rw [b1_,if_pos ⟨rfl,by omega⟩,List.length_set,List.length_set]
   exact⟨hCm t (List.take_subset _ _ h1),hTl,hIl⟩
 have hone:=fun (cc:Code) (h:selC [1,1,1,1,1,1,1,1,0,1,2,2,1,1,0,2,1,1,2,2] is_=some cc)=>uj_ h
 have hstep:=fun (i:Nat) (T1:List Tr) (I1:List Bool) (h:CInv TL IS (g m) C i T1 I1) (u:Tr) (hu:C[i]?=some u)=>h.next (by omega) (by omega) hns hu
 have hdone:=fun T1 I1 (h:CInv TL IS (g m) C C.length T1 I1)=>h.done hbm hle
 have hgp:=a4_ g hm
 have hnn:=hok.hi
 have q1:=ab_ A.r
 have q2:=al_ A.f
 have q3:=ao_ A.to
 have q4:=ab_ (szL A.f.length sz)
 have q5:=ab_ (szL L g)
 have q6:=ah_ C
 have pT:=ah_
 have pI:=al_
 have qT:=pT TL
 have qI:persL (bC IS)=true:=pI IS
 have hlo:=hok.lo
 rw [a1_ A] at hcd
 refine DW.mono (Q:=Nm 112 ⟨[(1,.ref 1 0),(7,.ptr [.sl false 1 A.f.length ((szL A.f.length sz).map fun x=>D.flat (.int .i64 x))] 0),(8,.own 129807421463370690713262408230502400004 A.f.length),(9,.own 31 A.f.length),(49,.sl false 1 L ((szL L g).map fun x=>D.flat (.int .i64 x))),(50,.flat (.int .i64 ((L:Nat):Int))),(51,.flat (.int .i64 (((m+1):Nat):Int)))],[(1,some (.box [.sl false 1 A.r.length (A.r.map fun x=>D.flat (.int .i64 x)),.sl false 1 A.f.length (A.f.map fun x=>D.flat (.bool x)),.sl false 1 A.to.length (aj_ A.to)])),(129807421463370690713262408230502400004,some (.row 78 2 A.f.length (ae_ (TL.set (g m) b)))),(31,some (.row 4 1 A.f.length (bC (IS.set (g m) true))))]⟩) ?_ (fun e s' h=>⟨b,hb,h⟩)
 clear hB hb hbm h0 hle hreach hall hinj hg4 hsrt hz hI hk hsz4 hC
 generalize (A.r.map fun x=>D.flat (.int .i64 x))=LR at*
 generalize (A.f.map fun x=>D.flat (.bool x))=LB at*
 generalize aj_ A.to=LT at*
 generalize ((szL A.f.length sz).map fun x=>D.flat (.int .i64 x))=SZ at*
 generalize ((szL L g).map fun x=>D.flat (.int .i64 x))=OC at*
 generalize A.r.length=lr at*
 generalize A.f.length=n at*
 generalize A.to.length=lt at*
 generalize hse:g m=s at*
 refine DW.sel hsel (by rfl) ?_
 generalize hKT:ae_ TL=KT at*
 generalize hBI:bC IS=BI at*
 generalize hKC:ae_ C=KC at*
 generalize hcl:C.length=cl at*
 refine DW.walk ?_
 rw [← hKT,← hBI]
 refine DW.loopA (fun x:Nat × List Tr × List Bool=>⟨[(1,.ref 1 0),(7,.ptr [.sl false 1 n SZ] 0),(8,.own 129807421463370690713262408230502400004 n),(9,.own 31 n),(49,.sl false 1 L OC),(50,.flat (.int .i64 ((L:Nat):Int))),(51,.flat (.int .i64 ((m:Nat):Int))),(13,.flat (.int .i64 ((s:Nat):Int))),(59,.sl false 2 cl KC),(60,.flat (.int .i64 ((cl:Nat):Int))),(61,.flat (.int .i64 ((x.1:Nat):Int)))],[(1,some (.box [.sl false 1 lr LR,.sl false 1 n LB,.sl false 1 lt LT])),(129807421463370690713262408230502400004,some (.row 78 2 n (ae_ x.2.1))),(31,some (.row 4 1 n (bC x.2.2)))]⟩) (fun x=>x.1≤cl∧CInv TL IS s C x.1 x.2.1 x.2.2) (fun x=>cl - x.1) (0,TL,IS) ?_ ⟨Nat.zero_le _,hC0⟩ (by show Sub _ _ ⟨[(1,.ref 1 0),(7,.ptr [.sl false 1 n SZ] 0),(8,.own 129807421463370690713262408230502400004 n),(9,.own 31 n),(49,.sl false 1 L OC),(50,.flat (.int .i64 ((L:Nat):Int))),(51,.flat (.int .i64 ((m:Nat):Int))),(13,.flat (.int .i64 ((s:Nat):Int))),(59,.sl false 2 cl KC),(60,.flat (.int .i64 ((cl:Nat):Int))),(61,.flat (.int .i64 ((0:Nat):Int)))],[(1,some (.box [.sl false 1 lr LR,.sl false 1 n LB,.sl false 1 lt LT])),(129807421463370690713262408230502400004,some (.row 78 2 n (ae_ TL))),(31,some (.row 4 1 n (bC IS)))]⟩;rw [hKT,hBI];exact Sub.auto)
 rintro⟨i,T1,I1⟩ ⟨hi,h1⟩
 simp only at hi h1
 rcases Nat.lt_or_ge i cl with hlt2|hge
 ·obtain ⟨u,hu⟩:∃ u,C[i]?=some u:=⟨_,List.getElem?_eq_getElem (by omega)⟩
  obtain⟨hy1,hy2⟩:=hstep i T1 I1 h1 u hu
  obtain⟨t1,t2,t3⟩:=hTm T1 I1 i h1 hi
  obtain⟨u0,l0,e0,z0⟩:=cb_ (show s<T1.length by omega)
  have hz1:=bk_ hu
  rw [hKC] at hz1
  have hcm:=s4_ _ u (T1.getD s (.node 0 [])) (Nat.le_refl _) (hCm u (List.mem_of_getElem? hu)) t1
  obtain⟨u1,l1⟩:=u
  rw [e0] at hcm hy1 hy2
  rw [ak_] at hz1
  rw [ak_,ak_] at hcm
  have hIb:partD false 1 (s*1) (bC I1)=some (.flat (.bool (I1.getD s false))):=ef_ (by rw [List.getD_eq_getElem?_getD,List.getElem?_eq_getElem (by omega)];rfl)
  by_cases hcase:I1.getD s false=false∨cmpT (.node u1 l1) (.node u0 l0)<0
  ·refine (hone _ (by rfl) lr lt n L m s cl i LR LB LT SZ OC KC (ae_ T1) (ae_ (T1.set s (.node u1 l1))) (bC I1) (bC (I1.set s true)) q1 q2 q3 q4 q5 q6 (pT _) (pT _) (pI _) (pI _) hnn (by omega) hs hlt2 hCl (by rw [dq_,t2]) (by rw [List.length_map,t3]) _ hIb u0 u1 _ _ _ _ _ (pT _) (pT _) z0 hz1 hcm (fun _=>⟨?_,⟨o5_ true (by omega)⟩⟩) (fun h=>absurd hcase h)).mono ?_
   ·    have:=lh_ (.node u1 l1) (show s<T1.length by omega)
        rw [a9_] at this
        exact this
   ·    rintro e s' ⟨rfl,hsub⟩
        exact⟨(i+1,_,_),⟨by show i+1≤cl;omega,hy1 hcase⟩,by show cl - (i+1)<cl - i;omega,hsub⟩
  ·refine (hone _ (by rfl) lr lt n L m s cl i LR LB LT SZ OC KC (ae_ T1) (ae_ T1) (bC I1) (bC I1) q1 q2 q3 q4 q5 q6 (pT _) (pT _) (pI _) (pI _) hnn (by omega) hs hlt2 hCl (by rw [dq_,t2]) (by rw [List.length_map,t3]) _ hIb u0 u1 _ _ _ _ _ (pT _) (pT _) z0 hz1 hcm (fun h=>absurd h hcase) (fun _=>⟨rfl,rfl⟩)).mono ?_
   rintro e s' ⟨rfl,hsub⟩
   exact⟨(i+1,_,_),⟨by show i+1≤cl;omega,hy2 hcase⟩,by show cl - (i+1)<cl - i;omega,hsub⟩
 ·obtain rfl:i=cl:=by omega
  obtain⟨rfl,rfl⟩:=hdone T1 I1 h1
  show DW _ _ _ ⟨[(1,.ref 1 0),(7,.ptr [.sl false 1 n SZ] 0),(8,.own 129807421463370690713262408230502400004 n),(9,.own 31 n),(49,.sl false 1 L OC),(50,.flat (.int .i64 ((L:Nat):Int))),(51,.flat (.int .i64 ((m:Nat):Int))),(13,.flat (.int .i64 ((s:Nat):Int))),(59,.sl false 2 i KC),(60,.flat (.int .i64 ((i:Nat):Int))),(61,.flat (.int .i64 ((i:Nat):Int)))],[(1,some (.box [.sl false 1 lr LR,.sl false 1 n LB,.sl false 1 lt LT])),(129807421463370690713262408230502400004,some (.row 78 2 n (ae_ (TL.set s b)))),(31,some (.row 4 1 n (bC (IS.set s true))))]⟩ _
  have p1:=pT (TL.set s b)
  have p2:persL (bC (IS.set s true))=true:=pI (IS.set s true)
  clear hone hstep hdone hTm hCm
  generalize ae_ (TL.set s b)=K1 at*
  generalize bC (IS.set s true)=B1 at*
  refine DW.walk ?_
  exact Nm.mk Sub.auto
theorem aay {cc:Code} (hsel:selC [1,1,1,1,1,1,1,1,1,0,1,2,2] is_=some cc) (lr lt n k:Nat) (LR LB LT TC IC:List D) (q1:persL LR=true) (q2:persL LB=true) (q3:persL LT=true) (q7:persL TC=true) (q9:persL IC=true) (hn:n≤512) (hk:k<n) (lT:TC.length=n*2) (lI:IC.length=n)
  (b:Bool) (hb:partD false 1 (k*1) IC=some (.flat (.bool b))) (u0:Int) (l0:Nat) (K0:List D) (w0:persL K0=true) (h0:partD true 2 (k*2) TC=some (.agg [.flat (.int .i64 u0),.sl false 2 l0 K0])) (hc:DFun Try.prog 84 [.agg [.flat (.int .i64 u0),.sl false 2 l0 K0]] (.agg [.flat (.int .i64 u0),.sl false 2 l0 K0]))
  (hs:List.take (k*2) TC++ [.flat (.int .i64 u0),.sl false 2 l0 K0]++List.drop (k*2+2) TC=TC) (hz:b=false→u0=0∧l0=0∧K0=[]):
  DW Try.prog 112 cc ⟨[(1,.ref 1 0),(8,.own 129807421463370690713262408230502400004 n),(9,.own 31 n),(88,.own 129807421463370690713262408230502400004 n),(89,.flat (.int .i64 ((n:Nat):Int))),(90,.flat (.int .i64 ((k:Nat):Int)))],[(1,some (.box [.sl false 1 lr LR,.sl false 1 n LB,.sl false 1 lt LT])),(129807421463370690713262408230502400004,some (.row 78 2 n TC)),(31,some (.row 4 1 n IC))]⟩ (Nm 112 ⟨[(1,.ref 1 0),(8,.own 129807421463370690713262408230502400004 n),(9,.own 31 n),(88,.own 129807421463370690713262408230502400004 n),(89,.flat (.int .i64 ((n:Nat):Int))),(90,.flat (.int .i64 (((k+1):Nat):Int)))],[(1,some (.box [.sl false 1 lr LR,.sl false 1 n LB,.sl false 1 lt LT])),(129807421463370690713262408230502400004,some (.row 78 2 n TC)),(31,some (.row 4 1 n IC))]⟩):=by
 refine DW.sel hsel (by rfl) ?_
 cases b with
 |true=>
  clear hz
  refine DW.walkTo 29 ?_
  rw [hs]
  refine DW.walk ?_
  exact Nm.mk Sub.auto
 |false=>
  obtain⟨rfl,rfl,rfl⟩:=hz rfl
  refine DW.walkTo 29 ?_
  rw [hs]
  refine DW.walkTo 30 ?_
  refine DW.regR ?_
  refine DC.isOp ?_
  apply DC.is_move
  refine DC.k_move ?_
  refine DC.isOp ?_
  apply DC.is_move
  refine DC.k_move ?_
  refine DC.t z8_ trivial trivial ?_
  refine DC.walk ?_
  rw [hs]
  exact Nm.mk Sub.auto
end Go.Proofs.Ytichhfbkhnimmaa
