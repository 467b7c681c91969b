/- The search for a shortest list of steps: all steps from one pair. No condition. -/
import Derived.Test.YtichhfbkhnimmaaVDI2
set_option linter.unusedSimpArgs false
set_option linter.unusedVariables false
set_option maxHeartbeats 4000000
set_option maxRecDepth 8000
namespace Go.Proofs.Ytichhfbkhnimmaa
open Go Go.RowKit Go.PP Go.Dm Go.Rt Go.Mn
theorem pm_ (W:List Go.Mn.Way):persL (dsW W)=true:=ac_ (fun _=>rfl) W
theorem hq_:∀ {a b:List D},oneL a=true→oneL b=true→oneL (a++b)=true
 | [],_,_,h=>h
 |d::a,b,h,k=>by
  simp only [List.cons_append,oneL,Bool.and_eq_true] at h ⊢
  exact⟨h.1,hq_ h.2 k⟩
theorem pv_:∀ l:List Sp,oneL (spC l)=true
 | []=>rfl
 |s::l=>by rw [ld_];exact hq_ rfl (pv_ l)
theorem xw_ {A:Au} {w:Go.Mn.Way} {W:List Go.Mn.Way} {i:Nat} (h:¬ ((av_ A w i).p=(av_ A w i).q∨(av_ A w i).pr∈W.map Go.Mn.Way.pr)):fr_ A w W i=W++ [av_ A w i]:=if_neg h
theorem r1_ {A:Au} {w:Go.Mn.Way} {W:List Go.Mn.Way} {i:Nat} (h:(av_ A w i).p=(av_ A w i).q∨(av_ A w i).pr∈W.map Go.Mn.Way.pr):fr_ A w W i=W:=if_pos h
def b5_ (A:Au) (w:Go.Mn.Way) (W:List Go.Mn.Way):Nat→List Go.Mn.Way
 |0=>W
 |i+1=>fr_ A w (b5_ A w W i) i
theorem h0_ {A:Au} (hok:AuOk A) {p q:Int} {k:Nat} {W:List Go.Mn.Way} {w:Go.Mn.Way} (h:BInv A p q k 0 W) (hw:W[k]?=some w):∀ i,i≤(ag_ A).length→BInv A p q k i (b5_ A w W i)∧(b5_ A w W i)[k]?=some w
 |0,_=>⟨h,hw⟩
 |i+1,hi=>by
  obtain⟨h1,h2⟩:=h0_ hok h hw i (by omega)
  exact h1.add hok h2 (by omega)
theorem o0_ {A:Au} {p q:Int} {k i:Nat} {W:List Go.Mn.Way} (h:BInv A p q k i W):WOk A W:=⟨h.nd,fun w hw=>⟨(h.run w hw).2.2.2.1,(h.run w hw).2.2.2.2⟩⟩
theorem qo_ (A:Au) (l:List Nat) (i:Nat):spC (a2_ A (l++ [i]))=spC (a2_ A l)++ [.flat (.int .i64 (spAt A i).sym),.flat (.int .i64 (spAt A i).at_),.flat (.int .i64 (spAt A i).other)]:=by
 unfold a2_
 rw [List.map_append,List.map_cons,List.map_nil,lk_]
theorem wb_ {A:Au} {i:Nat} (h:i<(ag_ A).length):(ag_ A)[i]?=some (spAt A i):=by
 unfold spAt
 rw [List.getD_eq_getElem?_getD,List.getElem?_eq_getElem h];rfl
theorem xx_ {u v:List Nat} (h:slt u v):u.length≤v.length:=by
 rcases h with h|h
 ·omega
 ·omega
theorem p3_ {A:Au} {p q:Int} {k i:Nat} {W:List Go.Mn.Way} (h:BInv A p q k i W):∀ (j:Nat) (u:Go.Mn.Way),W[j]?=some u→u.l.length≤j:=by
 intro j
 induction j using Nat.strongRecOn with
 |_ j   ih=>
  intro u hu
  rcases h.par u (List.mem_of_getElem? hu) with e| ⟨j',u',x,h1,h2,_⟩
  ·rw [e];exact Nat.zero_le _
  · have hl:u.l.length=u'.l.length+1:=by rw [h2];simp
    rcases Nat.lt_trichotomy j' j with h3|h3|h3
    ·   have:=ih j' h3 u' h1
        omega
    ·   subst h3
        rw [hu] at h1
        cases h1
        omega
    ·   have hp:=h.srt
        rw [List.pairwise_iff_getElem] at hp
        obtain⟨l1,e1⟩:=List.getElem?_eq_some_iff.1 hu
        obtain⟨l2,e2⟩:=List.getElem?_eq_some_iff.1 h1
        have:=xx_ (hp j j' l1 l2 h3)
        rw [e1,e2] at this
        omega
theorem zk_ {cc cd:Code} (hsel:selC [1,1,1,1,1,0,1,2,2,1,0,2,1,1,0] ew_=some cc) (hsel2:selC [1,1,1,1,1,0,1,2,2,1,0,2,1,1,1] ew_=some cd) (A:Au) (hok:AuOk A) (hst:(ag_ A).length≤5000000) (p q:Int) (k:Nat) (W:List Go.Mn.Way) (w:Go.Mn.Way) (hB:BInv A p q k 0 W) (hw:W[k]?=some w):
  DW Try.prog 122 cc ⟨[(3,.ptr [.sl false 1 A.r.length (A.r.map fun x=>D.flat (.int .i64 x)),.sl false 1 A.f.length (A.f.map fun x=>D.flat (.bool x)),.sl false 1 A.to.length (aj_ A.to)] 0),(11,.sl false 3 (ag_ A).length (spC (ag_ A))),(12,.mp 44),(13,.own 700 (W.length - k)),(14,.ref 14 0)],[(44,some (.box (.keys (ksW W)::dsW W))),(700,some (.row 104 3 (W.length - k) (b7_ A (W.drop k)))),(14,some (.box [.flat (.int .i64 w.p),.flat (.int .i64 w.q),.sl false 3 w.l.length (spC (a2_ A w.l))]))]⟩ (Thn (fun s'=>DW Try.prog 122 cd s' (Nm 122 ⟨[(3,.ptr [.sl false 1 A.r.length (A.r.map fun x=>D.flat (.int .i64 x)),.sl false 1 A.f.length (A.f.map fun x=>D.flat (.bool x)),.sl false 1 A.to.length (aj_ A.to)] 0),(11,.sl false 3 (ag_ A).length (spC (ag_ A))),(12,.mp 44),(13,.own 700 ((b5_ A w W (ag_ A).length).length - k)),(14,.ref 14 0)],[(44,some (.box (.keys (ksW (b5_ A w W (ag_ A).length))::dsW (b5_ A w W (ag_ A).length)))),(700,some (.row 104 3 ((b5_ A w W (ag_ A).length).length - k) (b7_ A ((b5_ A w W (ag_ A).length).drop k)))),(14,some (.box [.flat (.int .i64 w.p),.flat (.int .i64 w.q),.sl false 3 w.l.length (spC (a2_ A w.l))]))]⟩)) (Nm 122 ⟨[(3,.ptr [.sl false 1 A.r.length (A.r.map fun x=>D.flat (.int .i64 x)),.sl false 1 A.f.length (A.f.map fun x=>D.flat (.bool x)),.sl false 1 A.to.length (aj_ A.to)] 0),(11,.sl false 3 (ag_ A).length (spC (ag_ A))),(12,.mp 44),(13,.own 700 ((b5_ A w W (ag_ A).length).length - k)),(14,.ref 14 0)],[(44,some (.box (.keys (ksW (b5_ A w W (ag_ A).length))::dsW (b5_ A w W (ag_ A).length)))),(700,some (.row 104 3 ((b5_ A w W (ag_ A).length).length - k) (b7_ A ((b5_ A w W (ag_ A).length).drop k)))),(14,some (.box [.flat (.int .i64 w.p),.flat (.int .i64 w.q),.sl false 3 w.l.length (spC (a2_ A w.l))]))]⟩)):=by
 obtain rfl:=Option.some.inj (hsel2.symm.trans (show selC [1,1,1,1,1,0,1,2,2,1,0,2,1,1,1] ew_=some _ by rfl))
 have hinv:=h0_ hok hB hw
 have hwl:=p3_ hB k w hw
 have hkl:=(List.getElem?_eq_some_iff.1 hw).1
 have hfw:=hB.few
 have hnn:A.f.length*A.f.length≤262144:=Nat.le_trans (Nat.mul_le_mul hok.hi hok.hi) (by decide)
 have q1:=ab_ A.r
 have q2:=al_ A.f
 have q3:=ao_ A.to
 have q4:=bv_ (ag_ A)
 have q5:=bv_ (a2_ A w.l)
 have hrun:=hB.run w (List.mem_of_getElem? hw)
 have hgs:∀ i,i<(ag_ A).length→partD true 3 (i*3) (spC (ag_ A))=some (.agg [.flat (.int .i64 (spAt A i).sym),.flat (.int .i64 (spAt A i).at_),.flat (.int .i64 (spAt A i).other)]):=fun i h=>r6_ (wb_ h)
 have hnx:∀ i (x:Int),i<(ag_ A).length→InA A x→DFun Try.prog 55 [.agg [.flat (.int .i64 (spAt A i).sym),.flat (.int .i64 (spAt A i).at_),.flat (.int .i64 (spAt A i).other)],.agg [.sl false 1 A.r.length (A.r.map fun x=>D.flat (.int .i64 x)),.sl false 1 A.f.length (A.f.map fun x=>D.flat (.bool x)),.sl false 1 A.to.length (aj_ A.to)],.flat (.int .i64 x)] (.flat (.int .i64 (au_ A (spAt A i) x))):=fun i x h hx=>wz_ A hok (spAt A i) (bx_.1 (gs_ h)) x hx
 have hwc:(a2_ A w.l).length=w.l.length:=by simp [a2_]
 have hcl:=u0_ (spC (a2_ A w.l)) w.l.length (by rw [rm_,hwc]) q5 (pv_ _) (by omega)
 have hq:=fun V:List Go.Mn.Way=>jr_ A V
 have hd:=fun V:List Go.Mn.Way=>pm_ V
 have e1:=fun (cc:Code) (h:selC [1,1,1,1,1,0,1,2,2,1,0,2,1,1,1,2,2] ew_=some cc)=>ad2 h
 have e2:=fun (cc:Code) (h:selC [1,1,1,1,1,0,1,2,2,1,0,2,1,1,1,2,2] ew_=some cc)=>ac8 h
 have e3:=fun (cc:Code) (h:selC [1,1,1,1,1,0,1,2,2,1,0,2,1,1,1,2,2] ew_=some cc)=>yx_ h
 refine DW.sel hsel (by rfl) ?_
 have p0:=hq (W.drop k)
 have p1:=hd W
 generalize hSC:spC (ag_ A)=SC at*
 generalize hWL:spC (a2_ A w.l)=WL at*
 generalize hLR:(A.r.map fun x=>D.flat (.int .i64 x))=LR at*
 generalize hLB:(A.f.map fun x=>D.flat (.bool x))=LB at*
 generalize hLT:aj_ A.to=LT at*
 generalize hQ0:b7_ A (W.drop k)=Q0 at*
 generalize hD0:dsW W=D0 at*
 refine DW.walk ?_
 rw [← hQ0,← hD0]
 refine DW.loopA (fun i:Nat=>⟨[(3,.ptr [.sl false 1 A.r.length LR,.sl false 1 A.f.length LB,.sl false 1 A.to.length LT] 0),(11,.sl false 3 (ag_ A).length SC),(12,.mp 44),(13,.own 700 ((b5_ A w W i).length - k)),(14,.ref 14 0),(79,.sl false 3 (ag_ A).length SC),(80,.flat (.int .i64 (((ag_ A).length:Nat):Int))),(81,.flat (.int .i64 ((i:Nat):Int)))],[(44,some (.box (.keys (ksW (b5_ A w W i))::dsW (b5_ A w W i)))),(700,some (.row 104 3 ((b5_ A w W i).length - k) (b7_ A ((b5_ A w W i).drop k)))),(14,some (.box [.flat (.int .i64 w.p),.flat (.int .i64 w.q),.sl false 3 w.l.length WL]))]⟩) (fun i=>i≤(ag_ A).length) (fun i=>(ag_ A).length - i) 0 ?_ (Nat.zero_le _) (by show Sub _ _ ⟨[(3,.ptr [.sl false 1 A.r.length LR,.sl false 1 A.f.length LB,.sl false 1 A.to.length LT] 0),(11,.sl false 3 (ag_ A).length SC),(12,.mp 44),(13,.own 700 (W.length - k)),(14,.ref 14 0),(79,.sl false 3 (ag_ A).length SC),(80,.flat (.int .i64 (((ag_ A).length:Nat):Int))),(81,.flat (.int .i64 ((0:Nat):Int)))],[(44,some (.box (.keys (ksW W)::dsW W))),(700,some (.row 104 3 (W.length - k) (b7_ A (W.drop k)))),(14,some (.box [.flat (.int .i64 w.p),.flat (.int .i64 w.q),.sl false 3 w.l.length WL]))]⟩;rw [hQ0,hD0];exact Sub.auto)
 intro i hi
 obtain⟨hBi,hwi⟩:=hinv i hi
 have hfi:=hBi.few
 have hki:=(List.getElem?_eq_some_iff.1 hwi).1
 rcases Nat.lt_or_ge i (ag_ A).length with hlt|hge
 ·obtain  ⟨V,hV⟩:∃ V,b5_ A w W i=V:=⟨_,rfl⟩
  have hnext:b5_ A w W (i+1)=fr_ A w V i:=by rw [← hV];rfl
  rw [hV] at hBi hwi hfi hki ⊢
  have hx:=hnx i w.p hlt hrun.2.2.2.1
  have hy:=hnx i w.q hlt hrun.2.2.2.2
  by_cases c1:au_ A (spAt A i) w.p=au_ A (spAt A i) w.q
  ·have hb:fr_ A w V i=V:=r1_ (.inl c1)
   refine (e1 _ (by rfl) LR LB LT SC WL (b7_ A (V.drop k)) (dsW V) (ksW V) A.f.length A.r.length A.to.length (ag_ A).length i w.l.length (V.length - k) w.p w.q _ _ _ _ _ hst hlt (by omega) (by omega) q1 q2 q3 q4 q5 (hq _) (hd _) (hgs i hlt) hx hy c1).mono ?_
   rintro e s' ⟨rfl,hsub⟩
   exact⟨i+1,by omega,by omega,by rw [hnext,hb];exact hsub⟩
  ·by_cases c2:(au_ A (spAt A i) w.p,au_ A (spAt A i) w.q)∈V.map Go.Mn.Way.pr
   ·    have hb:fr_ A w V i=V:=r1_ (.inr c2)
        obtain⟨ix,l1,l2⟩:=ui_ hok (o0_ hBi) c2
        refine (e2 _ (by rfl) LR LB LT SC WL (b7_ A (V.drop k)) (dsW V) (ksW V) A.f.length A.r.length A.to.length (ag_ A).length i w.l.length (V.length - k) w.p w.q _ _ _ _ _ hst hlt (by omega) (by omega) q1 q2 q3 q4 q5 (hq _) (hd _) (hgs i hlt) hx hy c1 ix l1 l2).mono ?_
        rintro e s' ⟨rfl,hsub⟩
        exact⟨i+1,by omega,by omega,by rw [hnext,hb];exact hsub⟩
   ·    have hb:fr_ A w V i=V++ [av_ A w i]:=xw_ (fun h=>h.elim c1 c2)
        have hsp:=bx_.1 (gs_ hlt)
        have hl:=pj_ hok (o0_ hBi) (db_ hok hsp hrun.2.2.2.1) (db_ hok hsp hrun.2.2.2.2) c2
        obtain⟨k1,k2⟩:=u3_ V (av_ A w i)
        have hdr:(V++ [av_ A w i]).drop k=V.drop k++ [av_ A w i]:=List.drop_append_of_le_length (by omega)
        have hll:(V++ [av_ A w i]).length - k=V.length - k+1:=by simp;omega
        have hwn:b7_ A (V.drop k++ [av_ A w i])=b7_ A (V.drop k)++ [.flat (.int .i64 (au_ A (spAt A i) w.p)),.flat (.int .i64 (au_ A (spAt A i) w.q)),.sl false 3 (w.l.length+1) (WL++ [.flat (.int .i64 (spAt A i).sym),.flat (.int .i64 (spAt A i).at_),.flat (.int .i64 (spAt A i).other)])]:=by
         rw [qw_]
         unfold wayC av_
         simp only [List.length_append,List.length_singleton,qo_,hWL]
        have q6:=hq (V.drop k++ [av_ A w i])
        have q7:=hd (V++ [av_ A w i])
        have q8:persL (WL++ [.flat (.int .i64 (spAt A i).sym),.flat (.int .i64 (spAt A i).at_),.flat (.int .i64 (spAt A i).other)])=true:=cg_ q5 rfl
        refine (e3 _ (by rfl) LR LB LT SC WL (b7_ A (V.drop k)) (dsW V) (ksW V) A.f.length A.r.length A.to.length (ag_ A).length i w.l.length (V.length - k) w.p w.q _ _ _ _ _ hst hlt (by omega) (by omega) q1 q2 q3 q4 q5 (hq _) (hd _) (hgs i hlt) hx hy c1 hl _ _ _ k1.symm k2.symm hwn.symm q6 q7 hcl q8).mono ?_
        rintro e s' ⟨rfl,hsub⟩
        exact⟨i+1,by omega,by omega,by rw [hnext,hb,hdr,hll];exact hsub⟩
 ·obtain rfl:(ag_ A).length=i:=by omega
  have p0:=hq ((b5_ A w W (ag_ A).length).drop k)
  have p1:=hd (b5_ A w W (ag_ A).length)
  generalize b7_ A ((b5_ A w W (ag_ A).length).drop k)=Q1 at*
  generalize dsW (b5_ A w W (ag_ A).length)=D1 at*
  clear hnx e1 e2 e3 hgs hinv
  refine DW.walk ?_
  exact Nm.mk Sub.auto
theorem p7_ {N:Nat} {s1 s2 s3:DS} (h:Dm.Sub N s1 s2) (k:Dm.Sub N s2 s3):Dm.Sub N s1 s3:=fun w0 M0 B0 a w q=>k w0 M0 B0 a w (h w0 M0 B0 a w q)
theorem cutQ {N:Nat} {c y:Code} {s:DS} {Q:Exit→DS→Prop} (S2:DS) (h1:DW Try.prog N c s (Thn (fun s'=>DW Try.prog N y s' (Nm N S2)) (Nm N S2))) (h2:∀ s',Dm.Sub N s' S2→Q .normal s'):DW Try.prog N c s (Thn (fun s'=>DW Try.prog N y s' Q) Q):=h1.mono fun e s' q=>by
 cases e with
 |normal=>exact DW.mono q (fun e s'' q2=>by obtain⟨e1,e2⟩:=q2;subst e1;exact h2 s'' e2)
 |_=>exact absurd q.1 (by simp)
theorem l0_ (A:Au) (hk:chk A=0) (p q:Int) (hp:InA A p) (hq:InA A q) (d:D) (hyes:∀ l,jc_ A l p q→(∀ g,jc_ A g p q→sle l g)→d= .tup [.sl false 3 l.length (spC (a2_ A l)),.flat (.bool true),.flat (.int .i64 0)]) (hno:Eqv A p q→d= .tup [.flat (.slice none 0 0),.flat (.bool false),.flat (.int .i64 0)]):
  DFun Try.prog 20 [auD A,.flat (.int .i64 p),.flat (.int .i64 q)] d:=by
 have hok:=a6_ hk
 have hc:=fy_ A (bj_ hok)
 rw [hk] at hc
 have hst:=ts_ A hk
 have hstl:(ag_ A).length≤5000000:=by
  have h1:=ku_ A hok.hi A.r.length
  have h2:=hok.alpha.hi
  have h3:ag_ A=stQ A A.r.length:=rfl
  rw [h3];omega
 have hnn:=hok.hi
 have hn2:A.f.length*A.f.length≤262144:=Nat.le_trans (Nat.mul_le_mul hok.hi hok.hi) (by decide)
 have hB0:=BInv.init hp hq
 have hIs:=hg_ p q
 have hN0:LookN Try.prog 101 [] (kvP p q):=pj_ hok (W:=[]) ⟨by simp,fun w h=>by cases h⟩ hp hq (by simp)
 have a0:=hp.1
 have a1:=hp.2
 have b0:=hq.1
 have b1:=hq.2
 have hrow:=fun (cc cd:Code) (h:selC [1,1,1,1,1,0,1,2,2,1,0,2,1,1,0] ew_=some cc) (h2:selC [1,1,1,1,1,0,1,2,2,1,0,2,1,1,1] ew_=some cd)=>zk_ h h2 A hok hstl p q
 have hfin:∀ x:Int,InA A x→ ∃ t:Nat,x=(t:Int)∧t<A.f.length∧partD false 1 (t*1) (A.f.map fun x=>D.flat (.bool x))=some (.flat (.bool (finI A x))):=fun x hx=>by
  obtain⟨t,rfl⟩:=Int.eq_ofNat_of_zero_le hx.1
  have ht:t<A.f.length:=by have:=hx.2;omega
  refine⟨t,rfl,ht,ef_ ?_⟩
  unfold finI
  rw [Int.toNat_natCast,List.getD_eq_getElem?_getD,List.getElem?_eq_getElem ht];rfl
 have q1:=ab_ A.r
 have q2:=al_ A.f
 have q3:=ao_ A.to
 have q4:=bv_ (ag_ A)
 rw [a1_] at hc hst ⊢
 have hwp:=fun W:List Go.Mn.Way=>jr_ A W
 have hdp:=fun W:List Go.Mn.Way=>pm_ W
 have o53:=OwnAt.of 53
 have i53:=IdAt.of 53 700
 generalize hSC:spC (ag_ A)=SC at*
 generalize hm:(ag_ A).length=m at*
 generalize (A.r.map fun x=>D.flat (.int .i64 x))=LR at*
 generalize (A.f.map fun x=>D.flat (.bool x))=LB at*
 generalize aj_ A.to=LT at*
 generalize hn:A.f.length=n at*
 refine DFun.enterA Try.func20 Try.ntmps20 ?_
 refine DW.walk ?_
 refine DW.loopA (fun X:List Go.Mn.Way × Nat=>⟨[(3,.ptr [.sl false 1 A.r.length LR,.sl false 1 n LB,.sl false 1 A.to.length LT] 0),(11,.sl false 3 m SC),(12,.mp 44),(13,.own 700 (X.1.length - X.2))],[(44,some (.box (.keys (ksW X.1)::dsW X.1))),(700,some (.row 104 3 (X.1.length - X.2) (b7_ A (X.1.drop X.2))))]⟩) (fun X=>BInv A p q X.2 0 X.1∧X.2≤X.1.length) (fun X=>n*n - X.2) ([⟨p,q,[]⟩],0) ?_ ⟨hB0,Nat.zero_le _⟩ (by show Sub _ _ ⟨[(3,.ptr [.sl false 1 A.r.length LR,.sl false 1 n LB,.sl false 1 A.to.length LT] 0),(11,.sl false 3 m SC),(12,.mp 44),(13,.own 700 ([(⟨p,q,[]⟩:Go.Mn.Way)].length - 0))],[(44,some (.box [.keys [kvP p q],.flat (.bool true)])),(700,some (.row 104 3 1 [.flat (.int .i64 p),.flat (.int .i64 q),.sl false 3 0 []]))]⟩;exact Sub.auto)
 rintro⟨W,k⟩ ⟨hB,hkl⟩
 simp only at hB hkl ⊢
 have hfw:=hB.few
 rw [hn] at hfw
 rcases Nat.lt_or_ge k W.length with hlt|hge
 ·obtain ⟨w,hw⟩:∃ w,W[k]?=some w:=⟨W[k],by simp⟩
  have hdr:W.drop k=w::W.drop (k+1):=by
   rw [List.drop_eq_getElem_cons hlt]
   congr 1
   rw [List.getElem?_eq_getElem hlt] at hw
   exact Option.some.inj hw
  obtain⟨hr1,hr2,hr3,hr4,hr5⟩:=hB.run w (List.mem_of_getElem? hw)
  obtain⟨t,ht,htn,hf1⟩:=hfin w.p hr4
  obtain⟨u,hu,hun,hf2⟩:=hfin w.q hr5
  have hg:=rr_ A w (W.drop (k+1))
  have hwl:=p3_ hB k w hw
  have pw:=bv_ (a2_ A w.l)
  have p0:=hwp (W.drop k)
  have p1:=hdp W
  rw [← hdr] at hg
  by_cases he:finI A w.p=finI A w.q
  ·have  hbt:=h0_ hok hB hw m (by omega)
   have hnx:=hbt.1
   rw [← hm] at hnx
   have hnext:=hnx.next (by rw [hm];exact hbt.2) he
   rw [hm] at hnext
   have hfew2:=hbt.1.few
   rw [hn] at hfew2
   have hkl2:=(List.getElem?_eq_some_iff.1 hbt.2).1
   have hr:=hrow _ _ (by rfl) (by rfl) k W w hB hw
   unfold wayC at hg
   have e3:b5_ A w W m=b5_ A w W m:=rfl
   have p2:=hwp ((b5_ A w W m).drop k)
   have p3:=hdp (b5_ A w W m)
   have p4:=hwp ((b5_ A w W m).drop (k+1))
   have  hcut:(b7_ A ((b5_ A w W m).drop k)).drop (1*3)=b7_ A ((b5_ A w W m).drop (k+1)):=by
        rw [List.drop_eq_getElem_cons hkl2]
        exact q6_ ..
   generalize hW2:b5_ A w W m=W2 at*
   rw [← he] at hf2
   rw [ht,hu] at hg
   rw [ht,hu] at hr
   generalize finI A w.p=f1 at*
   generalize hWL:spC (a2_ A w.l)=WL at*
   clear hrow hfin
   generalize hQ0:b7_ A (W.drop k)=Q0 at*
   generalize hD0:dsW W=D0 at*
   generalize hQ2:b7_ A (W2.drop k)=Q2 at*
   generalize hQ3:b7_ A (W2.drop (k+1))=Q3 at*
   generalize hD2:dsW W2=D2 at*
   generalize hK2:ksW W2=K2 at*
   cases f1
   all_goals
        refine DW.walkTo 15 ?_
        refine DW.sub (s':=⟨[(3,.ptr [.sl false 1 A.r.length LR,.sl false 1 n LB,.sl false 1 A.to.length LT] 0),(11,.sl false 3 m SC),(12,.mp 44),(13,.own 700 (W.length - k)),(14,.ref 14 0)],[(44,some (.box (.keys (ksW W)::D0))),(700,some (.row 104 3 (W.length - k) Q0)),(14,some (.box [.flat (.int .i64 ((t:Nat):Int)),.flat (.int .i64 ((u:Nat):Int)),.sl false 3 w.l.length WL]))]⟩) Sub.auto ?_
        refine cutQ _ hr ?_
        intro s' hsub
        refine (show DW Try.prog 122 _ s' _ from DW.sub hsub ?_)
        refine DW.regR ?_
        refine DC.isOp ?_
        apply DC.is_move
        refine DC.k_move ?_
        refine DC.t (T.cutOwnL (id2:=701) (l:=1) _ _ _ TySl.h (by first|exact TySz.h|kernel_rfl) (IsN.lit 1 (by decide)) (by omega) (by omega)) ⟨rfl,rfl,trivial⟩ ⟨rfl,rfl,trivial⟩ ?_
        refine DC.walk ?_
        rw [hcut]
        refine⟨(W2,k+1),⟨hnext,by show k+1≤W2.length;omega⟩,by show n*n - (k+1)<n*n - k;omega,?_⟩
        obtain⟨L2,hL2⟩:∃ L2,W2.length - (k+1)=L2:=⟨_,rfl⟩
        show Dm.Sub _ _ ⟨[(3,.ptr [.sl false 1 A.r.length LR,.sl false 1 n LB,.sl false 1 A.to.length LT] 0),(11,.sl false 3 m SC),(12,.mp 44),(13,.own 700 (W2.length - (k+1)))],[(44,some (.box (.keys (ksW W2)::dsW W2))),(700,some (.row 104 3 (W2.length - (k+1)) (b7_ A (W2.drop (k+1)))))]⟩
        rw [hK2,hD2,hQ3,hL2]
        refine p7_ (s2:=⟨[(3,.ptr [.sl false 1 A.r.length LR,.sl false 1 n LB,.sl false 1 A.to.length LT] 0),(11,.sl false 3 m SC),(12,.mp 44),(13,.own 701 L2)],[(44,some (.box (.keys K2::D2))),(701,some (.row 104 3 L2 Q3))]⟩) Sub.auto ?_
        refine p7_ (Sub.ren (t:=13) (b:=700) rfl rfl rfl) ?_
        exact Sub.auto
  ·obtain⟨hd1,hd2⟩:=hB.found hok hp hq hw he
   have hd:=hyes w.l hd1 hd2
   subst hd
   unfold wayC at hg
   rw [ht] at hg
   rw [hu] at hg
   generalize finI A w.p=f1 at*
   generalize finI A w.q=f2 at*
   generalize spC (a2_ A w.l)=WL at*
   generalize b7_ A (W.drop k)=QC at*
   clear hrow hfin hwp hdp
   cases f1 <;> cases f2 <;> first|exact absurd rfl he|skip
   all_goals
        refine DW.walk ?_
        exact⟨.inr rfl,ResOk.three [] rfl rfl rfl rfl trivial (Vw.pers rfl) (Vw.pers rfl) (Vw.pers rfl)⟩
 ·obtain rfl:k=W.length:=by omega
  have hd:=hno (hB.none hok hp hq)
  subst hd
  have p0:=hwp (W.drop W.length)
  have p1:=hdp W
  generalize b7_ A (W.drop W.length)=QC at*
  generalize dsW W=DS at*
  clear hrow hfin hwp hdp
  refine DW.walk ?_
  exact⟨.inr rfl,ResOk.three [] rfl rfl rfl rfl trivial (Vw.pers rfl) (Vw.pers rfl) (Vw.pers rfl)⟩
def K1:Au:=⟨[0,2],[false,false,false],[[1],[0,1,2,1,2,0,2,0,1]]⟩
def K2:Au:=⟨[0,2],[true,false,false],[[1],[0,1,2,1,2,0,2,0,1]]⟩
theorem kok (f:List Bool) (hf:f.length=3):AuOk ⟨[0,2],f,[[1],[0,1,2,1,2,0,2,0,1]]⟩:=by
 refine⟨⟨by simp,by simp,by simp⟩,by simp only;omega,by simp only;omega,rfl,fun i l k h1 h2=>?_,fun l hl s hs=>?_⟩
 ·simp only at h1 h2 ⊢
  match i,h1,h2 with
  |0,h1,h2=>simp at h1 h2;subst h1;subst h2;simp [ba_]
  |1,h1,h2=>simp at h1 h2;subst h1;subst h2;simp [ba_,hf]
  |i+2,h1,h2=>simp at h1
 ·simp only [hf]
  simp at hl
  rcases hl with rfl|rfl <;> simp at hs <;> omega
theorem ka:alphaE [0,2]=0:=by decide +kernel
theorem acw:chk K1=0:=ow_ ka (kok _ rfl)
theorem v1_:chk K2=0:=ow_ ka (kok _ rfl)
theorem abc:(bs_ K1).f.length=1:=by decide +kernel
theorem ab5:nbU (clsU K2)=3:=by decide +kernel
theorem aeg:jc_ K2 [] 0 1:=⟨fun i h=>(by cases h),by decide +kernel⟩
theorem aen:∃ l,jc_ K2 l 1 2∧l.length=1:=by
 have h:∃ i,i<(ag_ K2).length∧finI K2 (b4_ K2 (a2_ K2 [i]) 1)≠finI K2 (b4_ K2 (a2_ K2 [i]) 2):=by decide +kernel
 obtain⟨i,h1,h2⟩:=h
 exact⟨[i],⟨fun j hj=>by rw [List.mem_singleton] at hj;subst hj;exact h1,h2⟩,rfl⟩
theorem aei:finI K2 1=finI K2 2:=by decide +kernel
theorem nine:∀ base:List D,base.length=9*1→fillD (fun i=>some (i*1,1)) base [(0,D.flat (.int .i64 0)),(1,D.flat (.int .i64 1)),(2,D.flat (.int .i64 2)),(3,D.flat (.int .i64 1)),(4,D.flat (.int .i64 2)),(5,D.flat (.int .i64 0)),(6,D.flat (.int .i64 2)),(7,D.flat (.int .i64 0)),(8,D.flat (.int .i64 1))]=some [.flat (.int .i64 0),.flat (.int .i64 1),.flat (.int .i64 2),.flat (.int .i64 1),.flat (.int .i64 2),.flat (.int .i64 0),.flat (.int .i64 2),.flat (.int .i64 0),.flat (.int .i64 1)]
 | [b0,b1,b2,b3,b4,b5,b6,b7,b8],_=>rfl
theorem le1:Le (.agg [.sl true 1 2 [.flat (.int .i64 0),.flat (.int .i64 2)],.sl true 1 3 [.flat (.bool false),.flat (.bool false),.flat (.bool false)],.sl true 1 2 [.sl true 1 1 [.flat (.int .i64 1)],.sl true 1 9 [.flat (.int .i64 0),.flat (.int .i64 1),.flat (.int .i64 2),.flat (.int .i64 1),.flat (.int .i64 2),.flat (.int .i64 0),.flat (.int .i64 2),.flat (.int .i64 0),.flat (.int .i64 1)]]]) (auD K1):=Le.agg ⟨Le.full,Le.full,Le.full.trans (Le.slc ⟨Le.full,Le.full,trivial⟩),trivial⟩
theorem le2:Le (.agg [.sl true 1 2 [.flat (.int .i64 0),.flat (.int .i64 2)],.sl true 1 3 [.flat (.bool true),.flat (.bool false),.flat (.bool false)],.sl true 1 2 [.sl true 1 1 [.flat (.int .i64 1)],.sl true 1 9 [.flat (.int .i64 0),.flat (.int .i64 1),.flat (.int .i64 2),.flat (.int .i64 1),.flat (.int .i64 2),.flat (.int .i64 0),.flat (.int .i64 2),.flat (.int .i64 0),.flat (.int .i64 1)]]]) (auD K2):=Le.agg ⟨Le.full,Le.full,Le.full.trans (Le.slc ⟨Le.full,Le.full,trivial⟩),trivial⟩
theorem tq_:DFun Try.prog 12 [] (.flat (.bool true)):=by
 have hm:=DFun.le (args':=[.agg [.sl true 1 2 [.flat (.int .i64 0),.flat (.int .i64 2)],.sl true 1 3 [.flat (.bool false),.flat (.bool false),.flat (.bool false)],.sl true 1 2 [.sl true 1 1 [.flat (.int .i64 1)],.sl true 1 9 [.flat (.int .i64 0),.flat (.int .i64 1),.flat (.int .i64 2),.flat (.int .i64 1),.flat (.int .i64 2),.flat (.int .i64 0),.flat (.int .i64 2),.flat (.int .i64 0),.flat (.int .i64 1)]]]]) (nl_ K1 acw) ⟨le1,trivial⟩ (Le.refl _)
 have hc:=h2_ (args':=[.agg [.sl true 1 2 [.flat (.int .i64 0),.flat (.int .i64 2)],.sl true 1 3 [.flat (.bool true),.flat (.bool false),.flat (.bool false)],.sl true 1 2 [.sl true 1 1 [.flat (.int .i64 1)],.sl true 1 9 [.flat (.int .i64 0),.flat (.int .i64 1),.flat (.int .i64 2),.flat (.int .i64 1),.flat (.int .i64 2),.flat (.int .i64 0),.flat (.int .i64 2),.flat (.int .i64 0),.flat (.int .i64 1)]]]]) (qf_ K2 v1_) ⟨le2,trivial⟩ (Le.refl _)
 have hb:=aeh (clsU K2) (l6_ (a6_ v1_)) (by rw [gb_];decide) (by rw [gb_];decide)
 rw [gb_,ab5] at hb
 obtain⟨l0,hl0,hd0⟩:∃ l:List Nat,l.length=0∧DFun Try.prog 20 [auD K2,.flat (.int .i64 0),.flat (.int .i64 1)] (.tup [.sl false 3 l.length (spC (a2_ K2 l)),.flat (.bool true),.flat (.int .i64 0)]):=by
  refine⟨[],rfl,l0_ K2 v1_ 0 1 (by constructor <;> decide) (by constructor <;> decide) _ (fun l h1 h2=>?_) (fun h=>absurd (h 0) (Classical.not_not.2 (hj_ aeg)))⟩
  rcases h2 [] aeg with e|e
  ·rw [e]
  ·rcases e with e|e
   ·exact absurd e (Nat.not_lt_zero _)
   ·rw [List.length_eq_zero_iff.1 e.1]
 obtain⟨l1,hl1,hd1⟩:∃ l:List Nat,l.length=1∧DFun Try.prog 20 [auD K2,.flat (.int .i64 1),.flat (.int .i64 2)] (.tup [.sl false 3 l.length (spC (a2_ K2 l)),.flat (.bool true),.flat (.int .i64 0)]):=by
  obtain⟨g,hg1,hg2⟩:=aen
  have hd:Dist K2 1 1 2:=by have:=hj_ hg1;rw [hg2] at this;exact this
  have hmin:MinD K2 1 1 2:=⟨hd,fun e he h=>by
   obtain rfl:e=0:=by omega
   exact (ca_.1 h) aei⟩
  obtain⟨a1,a2,a3⟩:=ie_ 1 1 2 (by decide) hmin
  refine⟨i3_ K2 1 1 2,a2,l0_ K2 v1_ 1 2 (by constructor <;> decide) (by constructor <;> decide) _ (fun l h1 h2=>?_) (fun h=>absurd (h 1) (Classical.not_not.2 hd))⟩
  rw [mu_ (h2 _ a1) (a3 _ h1)]
 have hd0:=DFun.le (args':=[.agg [.sl true 1 2 [.flat (.int .i64 0),.flat (.int .i64 2)],.sl true 1 3 [.flat (.bool true),.flat (.bool false),.flat (.bool false)],.sl true 1 2 [.sl true 1 1 [.flat (.int .i64 1)],.sl true 1 9 [.flat (.int .i64 0),.flat (.int .i64 1),.flat (.int .i64 2),.flat (.int .i64 1),.flat (.int .i64 2),.flat (.int .i64 0),.flat (.int .i64 2),.flat (.int .i64 0),.flat (.int .i64 1)]]],.flat (.int .i64 0),.flat (.int .i64 1)]) hd0 ⟨le2,Le.refl _,Le.refl _,trivial⟩ (Le.refl _)
 have hd1:=DFun.le (args':=[.agg [.sl true 1 2 [.flat (.int .i64 0),.flat (.int .i64 2)],.sl true 1 3 [.flat (.bool true),.flat (.bool false),.flat (.bool false)],.sl true 1 2 [.sl true 1 1 [.flat (.int .i64 1)],.sl true 1 9 [.flat (.int .i64 0),.flat (.int .i64 1),.flat (.int .i64 2),.flat (.int .i64 1),.flat (.int .i64 2),.flat (.int .i64 0),.flat (.int .i64 2),.flat (.int .i64 0),.flat (.int .i64 1)]]],.flat (.int .i64 1),.flat (.int .i64 2)]) hd1 ⟨le2,Le.refl _,Le.refl _,trivial⟩ (Le.refl _)
 rw [hl0] at hd0
 rw [hl1] at hd1
 have hk2l:K2.f.length=3:=rfl
 have hmb:=abc
 rw [hk2l] at hc hb
 have p0:=ab_ ((List.range K1.f.length).map (bu_ K1))
 have p1:=ab_ (clsU K2)
 have p2:=bv_ (a2_ K2 l0)
 have p3:=bv_ (a2_ K2 l1)
 have q1:=ab_ (bs_ K1).r
 have q2:=al_ (bs_ K1).f
 have q3:=ao_ (bs_ K1).to
 rw [a1_ (bs_ K1)] at hm
 generalize ((bs_ K1).r.map fun x=>D.flat (.int .i64 x))=LR at*
 generalize ((bs_ K1).f.map fun x=>D.flat (.bool x))=LB at*
 generalize aj_ (bs_ K1).to=LT at*
 generalize (bs_ K1).r.length=lr at*
 generalize (bs_ K1).f.length=lb at*
 generalize (bs_ K1).to.length=lt at*
 generalize (((List.range K1.f.length).map (bu_ K1)).map fun x=>D.flat (.int .i64 x))=TO at*
 generalize K1.f.length=nk at*
 generalize ((clsU K2).map fun x=>D.flat (.int .i64 x))=CU at*
 generalize spC (a2_ K2 l0)=W0 at*
 generalize spC (a2_ K2 l1)=W1 at*
 subst hmb
 refine DFun.enterA Try.func12 Try.ntmps12 ?_
 refine DW.walk ?_
 refine DC.t (T.buildSl (cs:=[.flat (.int .i64 0),.flat (.int .i64 1),.flat (.int .i64 2),.flat (.int .i64 1),.flat (.int .i64 2),.flat (.int .i64 0),.flat (.int .i64 2),.flat (.int .i64 0),.flat (.int .i64 1)]) (len:=9) 22 [(0,.const (.int .i64 0),.flat (.int .i64 0)),(1,.const (.int .i64 1),.flat (.int .i64 1)),(2,.const (.int .i64 2),.flat (.int .i64 2)),(3,.const (.int .i64 1),.flat (.int .i64 1)),(4,.const (.int .i64 2),.flat (.int .i64 2)),(5,.const (.int .i64 0),.flat (.int .i64 0)),(6,.const (.int .i64 2),.flat (.int .i64 2)),(7,.const (.int .i64 0),.flat (.int .i64 0)),(8,.const (.int .i64 1),.flat (.int .i64 1))] TySl.h TyZ.h TyI.sz (by decide) (by decide) nine rfl rfl) ⟨rfl,rfl,rfl,rfl,rfl,rfl,rfl,rfl,rfl,trivial⟩ trivial ?_
 refine DC.walk ?_
 exact⟨.inr rfl,ResOk.one [] rfl rfl trivial (by rw [decide_eq_true rfl];exact Vw.pers rfl)⟩
set_option maxHeartbeats 1000000
theorem wf_ {P:Program} {t:TypeId} {n:Nat} {α β:Type} {f:α→List D} {g:β→List D} {ok:α→Prop} {ok2:β→Prop} (h:Opens P t n f ok) (hl:∀ y,(g y).length=n) (hs:∀ y,ok y→ ∃ z,g z=f y∧ok2 z):Opens P t n g ok2:=
 ⟨h.1,hl,fun H enc w base held fuel cs x hx hw=>by
  obtain⟨y,h1,h2⟩:=h.2.2 H enc w base held fuel cs x hx hw
  obtain⟨z,h3,h4⟩:=hs y h2
  exact⟨z,h3 ▸ h1,h4⟩⟩
theorem abo:Opens Try.prog 3 1 (fun z:Int=> [.flat (.int .i64 z)]) (fun z=>(Lit.int .i64 z).wf=true):=Opens.int (P:=Try.prog) TyInt.h (by kernel_rfl)
theorem aad:Opens Try.prog 4 1 (fun z:Bool=> [.flat (.bool z)]) (fun _=>True):=Opens.bool (P:=Try.prog) (by kernel_rfl) (by kernel_rfl)
theorem wx_:Opens Try.prog 22 1 (fun l:List Int=> [.sl false 1 l.length (l.map fun x=> .flat (.int .i64 x))]) (fun _=>True):=
 wf_ (Opens.slice (P:=Try.prog) (bytes:=8) Try.underlying22 (by kernel_rfl) (by decide) (by kernel_rfl) abo) (fun _=>rfl) fun l hl=>⟨l,by simp only [List.map_eq_flatMap],trivial⟩
theorem xv_:Opens Try.prog 23 1 (fun l:List Bool=> [.sl false 1 l.length (l.map fun x=> .flat (.bool x))]) (fun _=>True):=
 wf_ (Opens.slice (P:=Try.prog) (bytes:=1) Try.underlying23 (by kernel_rfl) (by decide) (by kernel_rfl) aad) (fun _=>rfl) fun l hl=>⟨l,by simp only [List.map_eq_flatMap],trivial⟩
theorem aap:Opens Try.prog 24 1 (fun l:List (List Int)=> [.sl false 1 l.length (aj_ l)]) (fun _=>True):=
 wf_ (Opens.slice (P:=Try.prog) (bytes:=24) Try.underlying24 (by kernel_rfl) (by decide) (by kernel_rfl) wx_) (fun _=>rfl) fun l hl=>⟨l,by simp only [aj_,List.map_eq_flatMap],trivial⟩
theorem opAu:Opens Try.prog 26 3 (fun A:Au=>auC A) (fun _=>True):=
 wf_ (Opens.triple (P:=Try.prog) (n0:=1) (n1:=1) (n2:=1) Try.underlying26 (by kernel_rfl) rfl rfl rfl wx_ xv_ aap) (fun _=>rfl) fun x hx=>⟨⟨x.1,x.2.1,x.2.2⟩,rfl,trivial⟩
set_option maxHeartbeats 4000000
theorem aax (A:Au) (hk:chk A=0):∀ (n:Nat) (t:Tr),depT t≤n→TSm t→nodesE A.r t=0→DFun Try.prog 75 [auD A,c2_ t] (.flat (.int .i64 (a0_ A t)))
 |0,.node s l,h,_,_=>by rw [ax_] at h;omega
 |n+1,.node s l,h,hs,hn=>by
  have hok:=a6_ hk
  rw [ax_] at h
  rw [cu_] at hs
  have hs1:=hs.1
  have ih:=aax A hk n
  have hat:=acz A hok s (ay_ A l) (j5_ hok hn)
  rw [← bo_,bd_,List.length_map] at hat
  obtain⟨_,_,_,hl4⟩:=bl_ hn
  have hno:=dk_ hl4
  clear hl4 hn
  have hro:∀ j k,l[j]?=some k→(((l.take j).map (a0_ A)).map fun x=>D.flat (.int .i64 x))++ [.flat (.int .i64 (a0_ A k))]=(((l.take (j+1)).map (a0_ A)).map fun x=>D.flat (.int .i64 x)):=fun j k hk=>by rw [List.take_add_one,hk];simp
  have hpI:=fun U:List Int=>ab_ U
  have hpk:=ah_ l
  have hpa:=fun (i:Nat) (k:Tr) (h:l[i]?=some k)=>bk_ h
  rw [ak_]
  have q1:=ab_ A.r
  have q2:=al_ A.f
  have q3:=ao_ A.to
  rw [a1_ A] at hat ih ⊢
  generalize (A.r.map fun x=>D.flat (.int .i64 x))=LR at*
  generalize (A.f.map fun x=>D.flat (.bool x))=LB at*
  generalize aj_ A.to=LT at*
  generalize A.r.length=lr at*
  generalize A.f.length=lb at*
  generalize A.to.length=lt at*
  generalize hST:a0_ A=ST at*
  refine DFun.enterA Try.func75 Try.ntmps75 ?_
  refine DW.walkTo 2 ?_
  refine DW.adopt 5 71 3 1 rfl rfl ?_
  refine DW.walk ?_
  refine DW.loopA (fun j:Nat=>⟨[(2,.ref 2 0),(3,.ref 3 0),(5,.own 71 j),(9,.sl false 2 l.length (ae_ l)),(10,.flat (.int .i64 ((l.length:Nat):Int))),(11,.flat (.int .i64 ((j:Nat):Int)))],[(2,some (.box [.sl false 1 lr LR,.sl false 1 lb LB,.sl false 1 lt LT])),(3,some (.box [.flat (.int .i64 s),.sl false 2 l.length (ae_ l)])),(71,some (.row 3 1 j (((l.take j).map ST).map fun x=>D.flat (.int .i64 x))))]⟩) (fun j=>j≤l.length) (fun j=>l.length - j) 0 ?_ (Nat.zero_le _)
  intro j hj
  rcases Nat.lt_or_ge j l.length with hlt|hge
  ·obtain⟨k,hkk⟩:∃ k,l[j]?=some k:=⟨_,List.getElem?_eq_getElem hlt⟩
   have hp:=hpa j k hkk
   have hd:=d5_ hkk
   have hks:=TSmL.at hs.2 hkk
   have ihk:=ih k (by omega) hks (hno k (List.mem_of_getElem? hkk))
   have hr:=hro j k hkk
   have q1:=hpI ((l.take j).map ST)
   have q2:=hpI ((l.take (j+1)).map ST)
   generalize hX1:(((l.take (j+1)).map ST).map fun x=>D.flat (.int .i64 x))=X1 at*
   generalize (((l.take j).map ST).map fun x=>D.flat (.int .i64 x))=X0 at*
   clear ih hkk hs hks hd h hro hpa hno hpI hat
   obtain⟨s',l'⟩:=k
   rw [ak_] at hp ihk
   have hpk2:=ah_ l'
   generalize ae_ l'=KL' at*
   generalize l'.length=ll' at*
   refine DW.walk ?_
   rw [hr]
   exact⟨j+1,by omega,by omega,by rw [hX1];exact Sub.auto⟩
  ·obtain rfl:j=l.length:=by omega
   rw [List.take_length]
   have q1:=hpI (l.map ST)
   generalize ((l.map ST).map fun x=>D.flat (.int .i64 x))=X0 at*
   clear ih h hs hro hpa hno hpI
   refine DW.sub (s':=⟨[(2,.ref 2 0),(3,.ref 3 0),(5,.sl false 1 l.length X0),(11,.flat (.int .i64 ((l.length:Nat):Int))),(10,.flat (.int .i64 ((l.length:Nat):Int)))],[(2,some (.box [.sl false 1 lr LR,.sl false 1 lb LB,.sl false 1 lt LT])),(3,some (.box [.flat (.int .i64 s),.sl false 2 l.length (ae_ l)]))]⟩) Sub.auto ?_
   refine DW.walk ?_
   exact⟨.inr rfl,ResOk.one [] rfl rfl trivial (Vw.pers rfl)⟩
theorem yc_ (A:Au) (hk:chk A=0) (t:Tr) (ts:TSm t):DFun Try.prog 39 [auD A,c2_ t] (.tup [.flat (.int .i64 (if rightE A.r t=0 then a0_ A t else 0)),.flat (.int .i64 (((rightE A.r t):Nat):Int))]):=by
  have hok:=a6_ hk
  have hc:=fy_ A (bj_ hok)
  rw [hk] at hc
  have hrl:A.r.length≤1000000000:=Nat.le_trans (bj_ hok).r (by decide)
  have hv:=xa_ A.r hrl t ts
  by_cases he:rightE A.r t=0
  · rw [if_pos he,he]
    rw [he] at hv
    have hn:nodesE A.r t=0:=by
      unfold rightE at he
      split at he
      ·omega
      · split at he
        ·cases he
        · split at he
          ·cases he
          ·exact he
    have hr:=aax A hk _ t (Nat.le_refl _) ts hn
    clear he hn hrl
    generalize a0_ A t=st at*
    obtain⟨s,l⟩:=t
    rw [ak_] at hv hr ⊢
    have hpk:=ah_ l
    generalize ae_ l=KL at*
    generalize l.length=ll at*
    have q1:=ab_ A.r
    have q2:=al_ A.f
    have q3:=ao_ A.to
    rw [a1_ A] at hc hr ⊢
    generalize (A.r.map fun x=>D.flat (.int .i64 x))=LR at*
    generalize (A.f.map fun x=>D.flat (.bool x))=LB at*
    generalize aj_ A.to=LT at*
    generalize A.r.length=lr at*
    generalize A.f.length=lb at*
    generalize A.to.length=lt at*
    refine DFun.enterA Try.func39 Try.ntmps39 ?_
    refine DW.walk ?_
    exact⟨.inr rfl,ResOk.two [] rfl rfl rfl trivial (Vw.pers rfl) (Vw.pers rfl)⟩
  · rw [if_neg he]
    have hne:((rightE A.r t:Nat):Int)≠0:=by omega
    generalize rightE A.r t=re at*
    obtain⟨s,l⟩:=t
    rw [ak_] at hv ⊢
    have hpk:=ah_ l
    generalize ae_ l=KL at*
    generalize l.length=ll at*
    have q1:=ab_ A.r
    have q2:=al_ A.f
    have q3:=ao_ A.to
    rw [a1_ A] at hc ⊢
    generalize (A.r.map fun x=>D.flat (.int .i64 x))=LR at*
    generalize (A.f.map fun x=>D.flat (.bool x))=LB at*
    generalize aj_ A.to=LT at*
    generalize A.r.length=lr at*
    generalize A.f.length=lb at*
    generalize A.to.length=lt at*
    refine DFun.enterA Try.func39 Try.ntmps39 ?_
    refine DW.walk ?_
    exact⟨.inr rfl,ResOk.two [] rfl rfl rfl trivial (Vw.pers rfl) (Vw.pers rfl)⟩
end Go.Proofs.Ytichhfbkhnimmaa
