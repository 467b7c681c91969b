/- Contracts over data: the steps of an automaton. No condition. -/
import Derived.Scope
import Derived.Test.YtichhfbkhnimmaaVKD
set_option linter.unusedSimpArgs false
set_option linter.unusedVariables false
set_option maxHeartbeats 4000000
set_option maxRecDepth 8000
namespace Go.Proofs.Ytichhfbkhnimmaa
open Go Go.RowKit Go.PP Go.Dm Go.Rt Go.Mn
def spC (l:List Sp):List D:=l.flatMap fun s=> [.flat (.int .i64 s.sym),.flat (.int .i64 s.at_),.flat (.int .i64 s.other)]
theorem lk_ (l:List Sp) (s:Sp):spC (l++ [s])=spC l++ [.flat (.int .i64 s.sym),.flat (.int .i64 s.at_),.flat (.int .i64 s.other)]:=by simp [spC]
theorem bv_ (l:List Sp):persL (spC l)=true:=gy_ (fun _=>rfl) l
def stQ (A:Au) (i:Nat):List Sp:=(List.range i).flatMap (fs_ A)
def stW (A:Au) (i w:Nat):List Sp:=(List.range w).flatMap fun (w:Nat)=>((List.range A.f.length).filter fun (m:Nat)=>decide ((m:Int)∈ad_ A)).map fun (m:Nat)=>(⟨i,w,m⟩:Sp)
def stO (A:Au) (i w o:Nat):List Sp:=((List.range o).filter fun (m:Nat)=>decide ((m:Int)∈ad_ A)).map fun (m:Nat)=>(⟨i,w,m⟩:Sp)
theorem o2_ (A:Au) (i:Nat):stQ A (i+1)=stQ A i++fs_ A i:=by simp [stQ,List.range_succ]
theorem pc_ (A:Au) (i w:Nat):stW A i (w+1)=stW A i w++stO A i w A.f.length:=by simp [stW,stO,List.range_succ]
theorem v2_ (A:Au) (i w o:Nat):stO A i w (o+1)=if (o:Int)∈ad_ A then stO A i w o++ [⟨i,w,o⟩] else stO A i w o:=by
 unfold stO
 rw [List.range_succ,List.filter_append,List.map_append]
 by_cases h:(o:Int)∈ad_ A <;> simp [h]
theorem tg_ (A:Au) (i w o:Nat):(stO A i w o).length≤o:=by
 unfold stO
 rw [List.length_map]
 exact Nat.le_trans (List.length_filter_le ..) (by simp)
theorem oe_ (A:Au) (i:Nat):∀ w,(stW A i w).length≤w*A.f.length
 |0=>by simp [stW]
 |w+1=>by
  rw [pc_,List.length_append]
  have h1:=oe_ A i w
  have h2:=tg_ A i w A.f.length
  rw [Nat.add_mul];omega
theorem qn_ (A:Au) (hn:A.f.length≤512) (i:Nat):(fs_ A i).length≤1024:=by
 unfold fs_
 split
 ·simp
 ·split
  ·have h1:=oe_ A i 2
   unfold stW at h1
   omega
  ·simp
theorem ku_ (A:Au) (hn:A.f.length≤512):∀ i,(stQ A i).length≤i*1024
 |0=>by simp [stQ]
 |i+1=>by
  rw [o2_,List.length_append]
  have h1:=ku_ A hn i
  have h2:=qn_ A hn i
  omega
theorem ts_ (A:Au) (hk:chk A=0):DFun Try.prog 54 [auD A] (.sl false 3 (ag_ A).length (spC (ag_ A))):=by
  have hok:=a6_ hk
  have hre:=tw_ A (bj_ hok)
  rw [ii_ hk] at hre
  have hn:=hok.hi
  have hrl:=hok.alpha.hi
  have hlb:(isB A.f.length (ad_ A)).length=A.f.length:=d2_ _ _
  have hgb:∀ o:Nat,o<A.f.length→partD false 1 (o*1) ((isB A.f.length (ad_ A)).map fun x=>D.flat (.bool x))=some (.flat (.bool (decide ((o:Int)∈ad_ A)))):=fun o h=>ef_ (e9_ h _)
  have hpr:∀ (i:Nat) (x:Int),A.r[i]?=some x→partD false 1 (i*1) (A.r.map fun x=>D.flat (.int .i64 x))=some (.flat (.int .i64 x)):=fun i x h=>an_ h
  have hrk:∀ (i:Nat) (x:Int),A.r[i]?=some x→ ∃ m:Nat,x=(m:Int)∧m≤2:=fun i x h=>o7_ hok h
  have hsS:∀ (i:Nat) (x:Int),A.r[i]?=some x→fs_ A i=if x=1 then [⟨i,0, -1⟩] else if x=2 then stW A i 2 else []:=fun i x h=>by
    unfold fs_ stW
    simp [List.getD,h]
  have hQl:=ku_ A hn
  have hWl:=fun i w=>oe_ A i w
  have hOl:=fun i w o=>tg_ A i w o
  have hQs:=o2_ A
  have hWs:=fun i w=>pc_ A i w
  have hOs:=fun i w o=>v2_ A i w o
  have hst:ag_ A=stQ A A.r.length:=rfl
  rw [hst]
  have hQ0:stQ A 0=[]:=rfl
  have hW0:∀ i,stW A i 0=[]:=fun _=>rfl
  have hO0:∀ i w,stO A i w 0=[]:=fun _ _=>rfl
  have hpF:=al_ (isB A.f.length (ad_ A))
  have q1:=ab_ A.r
  have q2:=al_ A.f
  have q3:=ao_ A.to
  rw [a1_] at*
  rw [hlb] at hre
  generalize ((isB A.f.length (ad_ A)).map fun x=>D.flat (.bool x))=LF at*
  generalize (A.r.map fun x=>D.flat (.int .i64 x))=LR at*
  generalize (A.f.map fun x=>D.flat (.bool x))=LB at*
  generalize aj_ A.to=LT at*
  generalize stQ A=Q at*
  generalize stW A=W at*
  generalize stO A=O at*
  generalize fs_ A=S at*
  generalize A.f.length=n at*
  clear hst hlb hok
  refine DFun.enterA Try.func54 Try.ntmps54 ?_
  refine DW.walkTo 3 ?_
  refine DW.adopt 5 109 50 3 rfl rfl ?_
  refine DW.sub (s':=⟨[(1,.ptr [.sl false 1 A.r.length LR,.sl false 1 n LB,.sl false 1 A.to.length LT] 0),(3,.sl false 1 n LF),(5,.own 109 0)],[(109,some (.row 50 3 0 []))]⟩) Sub.auto ?_
  refine DW.walk ?_
  refine DW.loopA (fun i:Nat=>⟨[(1,.ptr [.sl false 1 A.r.length LR,.sl false 1 n LB,.sl false 1 A.to.length LT] 0),(3,.sl false 1 n LF),(5,.own 109 (Q i).length),(17,.sl false 1 A.r.length LR),(18,.flat (.int .i64 ((A.r.length:Nat):Int))),(19,.flat (.int .i64 ((i:Nat):Int)))],[(109,some (.row 50 3 (Q i).length (spC (Q i))))]⟩) (fun i=>i≤A.r.length) (fun i=>A.r.length - i) 0 ?_ (Nat.zero_le _) (by rw [hQ0];exact Sub.auto)
  intro i hi
  rcases Nat.lt_or_ge i A.r.length with hil|hig
  · obtain ⟨x,hx⟩:∃ x,A.r[i]?=some x:=⟨A.r[i],by simp⟩
    obtain⟨m,rfl,hm2⟩:=hrk i x hx
    have hp:=hpr i _ hx
    have hss:=hsS i _ hx
    have hqs:=hQs i
    have hql:=hQl i
    have hq1:=bv_ (Q i)
    have hq2:=bv_ (Q (i+1))
    rcases (show m=0∨m=1∨m=2 by omega) with rfl|rfl|rfl
    · rw [if_neg (by decide),if_neg (by decide)] at hss
      rw [hss,List.append_nil] at hqs
      clear hpr hrk hsS hQl hWl hOl hQs hWs hOs hQ0 hW0 hO0 hgb
      refine DW.walk ?_
      refine DW.loopA (fun _:Unit=>⟨[(34,.flat (.int .i64 0)),(35,.flat (.int .i64 0)),(1,.ptr [.sl false 1 A.r.length LR,.sl false 1 n LB,.sl false 1 A.to.length LT] 0),(3,.sl false 1 n LF),(5,.own 109 (Q i).length),(17,.sl false 1 A.r.length LR),(18,.flat (.int .i64 ((A.r.length:Nat):Int))),(19,.flat (.int .i64 ((i:Nat):Int)))],[(109,some (.row 50 3 (Q i).length (spC (Q i))))]⟩) (fun _=>True) (fun _=>0) () ?_ trivial
      intro _ _
      refine DW.walk ?_
      exact⟨i+1,by omega,by omega,by rw [hqs];exact Sub.auto⟩
    · rw [if_pos (by decide)] at hss
      rw [hss] at hqs
      have hsn:=lk_ (Q i) ⟨i,0, -1⟩
      rw [← hqs] at hsn
      have hql2:(Q (i+1)).length=(Q i).length+1:=by rw [hqs];simp
      clear hpr hrk hsS hQl hWl hOl hQs hWs hOs hQ0 hW0 hO0 hgb hqs
      refine DW.walkTo 8 ?_
      rw [← hsn]
      refine DW.walk ?_
      refine DW.loopA (fun _:Unit=>⟨[(34,.flat (.int .i64 0)),(35,.flat (.int .i64 0)),(1,.ptr [.sl false 1 A.r.length LR,.sl false 1 n LB,.sl false 1 A.to.length LT] 0),(3,.sl false 1 n LF),(5,.own 109 (Q (i+1)).length),(17,.sl false 1 A.r.length LR),(18,.flat (.int .i64 ((A.r.length:Nat):Int))),(19,.flat (.int .i64 ((i:Nat):Int)))],[(109,some (.row 50 3 (Q (i+1)).length (spC (Q (i+1)))))]⟩) (fun _=>True) (fun _=>0) () ?_ trivial (by rw [hql2];exact Sub.auto)
      intro _ _
      refine DW.walk ?_
      exact⟨i+1,by omega,by omega,Sub.auto⟩
    · rw [if_neg (by decide),if_pos (by decide)] at hss
      rw [hss] at hqs
      clear hpr hrk hsS hQl hQs hQ0
      refine DW.walk ?_
      refine DW.loopA (fun w:Nat=>⟨[(6,.flat (.int .i64 ((i:Nat):Int))),(34,.flat (.int .i64 ((2:Nat):Int))),(35,.flat (.int .i64 ((w:Nat):Int))),(1,.ptr [.sl false 1 A.r.length LR,.sl false 1 n LB,.sl false 1 A.to.length LT] 0),(3,.sl false 1 n LF),(5,.own 109 (Q i++W i w).length),(17,.sl false 1 A.r.length LR),(18,.flat (.int .i64 ((A.r.length:Nat):Int))),(19,.flat (.int .i64 ((i:Nat):Int)))],[(109,some (.row 50 3 (Q i++W i w).length (spC (Q i++W i w))))]⟩) (fun w=>w≤2) (fun w=>2 - w) 0 ?_ (Nat.zero_le _) (by rw [hW0,List.append_nil];exact Sub.auto)
      intro w hw
      have hwl:=hWl i w
      have hq3:=bv_ (Q i++W i w)
      rcases Nat.lt_or_ge w 2 with hwlt|hwge
      · refine DW.walk ?_
        refine DW.loopA (fun o:Nat=>⟨[(8,.flat (.int .i64 ((w:Nat):Int))),(38,.sl false 1 n LF),(39,.flat (.int .i64 ((n:Nat):Int))),(40,.flat (.int .i64 ((o:Nat):Int))),(6,.flat (.int .i64 ((i:Nat):Int))),(34,.flat (.int .i64 ((2:Nat):Int))),(35,.flat (.int .i64 ((w:Nat):Int))),(1,.ptr [.sl false 1 A.r.length LR,.sl false 1 n LB,.sl false 1 A.to.length LT] 0),(3,.sl false 1 n LF),(5,.own 109 (Q i++W i w++O i w o).length),(17,.sl false 1 A.r.length LR),(18,.flat (.int .i64 ((A.r.length:Nat):Int))),(19,.flat (.int .i64 ((i:Nat):Int)))],[(109,some (.row 50 3 (Q i++W i w++O i w o).length (spC (Q i++W i w++O i w o))))]⟩) (fun o=>o≤n) (fun o=>n - o) 0 ?_ (Nat.zero_le _) (by rw [hO0,List.append_nil];exact Sub.auto)
        intro o ho
        have hol:=hOl i w o
        have hos:=hOs i w o
        have hws:=hWs i w
        have hq4:=bv_ (Q i++W i w++O i w o)
        rcases Nat.lt_or_ge o n with holt|hoge
        · have hg:=hgb o holt
          by_cases hmem:(o:Int)∈ad_ A
          · rw [decide_eq_true hmem] at hg
            rw [if_pos hmem] at hos
            have hsn:=lk_ (Q i++W i w++O i w o) ⟨i,w,o⟩
            have hcat:Q i++W i w++O i w o++ [⟨i,w,o⟩]=Q i++W i w++O i w (o+1):=by rw [hos,List.append_assoc (Q i++W i w)]
            rw [hcat] at hsn
            have hll:(Q i++W i w++O i w (o+1)).length=(Q i++W i w++O i w o).length+1:=by rw [← hcat];simp;omega
            have hlb2:(Q i++W i w++O i w o).length≤i*1024+2000:=by simp only [List.length_append];have:w*n≤1*512:=Nat.mul_le_mul (by omega) hn;omega
            have hq5:=bv_ (Q i++W i w++O i w (o+1))
            generalize hX1:Q i++W i w++O i w (o+1)=X1 at*
            generalize Q i++W i w++O i w o=X0 at*
            clear hgb hWl hOl hWs hOs hW0 hO0 hws hos hcat hss hqs
            refine DW.walk ?_
            rw [← hsn]
            exact⟨o+1,by omega,by omega,by rw [hX1,hll];exact Sub.auto⟩
          · rw [decide_eq_false hmem] at hg
            rw [if_neg hmem] at hos
            generalize hX0:Q i++W i w++O i w o=X0 at*
            clear hgb hWl hOl hWs hOs hW0 hO0 hws hss hqs
            refine DW.walk ?_
            exact⟨o+1,by omega,by omega,by rw [hos,hX0];exact Sub.auto⟩
        · obtain rfl:n=o:=by omega
          have hcat:Q i++W i w++O i w n=Q i++W i (w+1):=by rw [hws,List.append_assoc]
          generalize hX0:Q i++W i w++O i w n=X0 at*
          clear hgb hWl hOl hWs hOs hW0 hO0 hws hss hqs hos
          refine DW.walk ?_
          exact⟨w+1,by omega,by omega,by rw [← hcat];exact Sub.auto⟩
      · obtain rfl:w=2:=by omega
        rw [← hqs]
        clear hgb hWl hOl hWs hOs hW0 hO0 hss hqs hq3 hwl
        refine DW.walk ?_
        exact⟨i+1,by omega,by omega,Sub.auto⟩
  · obtain rfl:i=A.r.length:=by omega
    have hq1:=bv_ (Q A.r.length)
    generalize Q A.r.length=X at*
    clear hpr hrk hsS hQl hWl hOl hQs hWs hOs hQ0 hW0 hO0 hgb
    refine DW.walk ?_
    exact⟨.inr rfl,ResOk.one [(109,some (.row 50 3 X.length (spC X)))] rfl rfl ⟨rfl,trivial⟩ (Vw.own (.head _) (VwL.pers hq1))⟩
theorem rl_ {N:Nat} {σ:Sg} {f:Fr} {c a b e n L:Nat} {cs:List D} (hc:lkE σ c=some (.box [.own a L])) (ha:lkE σ a=some (.row e n L cs)) (hb:lkE σ b=none) (hid:newId N b=true):
    Dm.Sub N ⟨f,σ⟩ ⟨f,(c,some (.box [.own b L]))::(b,some (.row e n L cs))::(a,some .dead)::σ⟩:=by
  intro w0 M0 B0 act w ⟨g,hs⟩
  have hca:c≠a:=fun q=>by rw [q,ha] at hc;cases hc
  have hcb:c≠b:=fun q=>by rw [q,hb] at hc;cases hc
  have hab:a≠b:=fun q=>by rw [q,hb] at ha;cases ha
  obtain⟨g',hg'⟩:∃ g':Gh,g'=⟨g.blk,fun k=>if k=b then g.row a else g.row k⟩:=⟨_,rfl⟩
  have gb:g'.blk=g.blk:=by rw [hg']
  have gr:∀ k,g'.row k=if k=b then g.row a else g.row k:=by rw [hg'];intro k;rfl
  clear hg'
  generalize hσ:(c,some (Ent.box [.own b L]))::(b,some (Ent.row e n L cs))::(a,some Ent.dead)::σ=σ'
  have l:∀ k,lkE σ' k=if c=k then some (Ent.box [.own b L]) else if b=k then some (Ent.row e n L cs) else if a=k then some Ent.dead else lkE σ k:=by
    intro k;rw [← hσ,aa_,aa_,aa_]
  have lc:lkE σ' c=some (.box [.own b L]):=by rw [l,if_pos rfl]
  have lb:lkE σ' b=some (.row e n L cs):=by rw [l,if_neg hcb,if_pos rfl]
  have la:lkE σ' a=some .dead:=by rw [l,if_neg hca,if_neg (fun q=>hab q.symm),if_pos rfl]
  have lo:∀ k,k≠c→k≠b→k≠a→lkE σ' k=lkE σ k:=fun k h1 h2 h3=>by rw [l,if_neg (fun q=>h1 q.symm),if_neg (fun q=>h2 q.symm),if_neg (fun q=>h3 q.symm)]
  clear l hσ
  have ba:blkOf g' σ' a=none:=by unfold blkOf;rw [la]
  have bb0:blkOf g σ b=none:=by unfold blkOf;rw [hb]
  have bb:blkOf g' σ' b=blkOf g σ a:=by unfold blkOf;rw [lb,ha,gr,if_pos rfl]
  have bo:∀ k,k≠a→k≠b→blkOf g' σ' k=blkOf g σ k:=fun k h1 h2=>by
    by_cases h3:k=c
    ·subst h3;unfold blkOf;rw [lc,hc,gb]
    ·unfold blkOf;rw [lo k h3 h2 h1,gb,gr,if_neg h2]
  have hsub:∀ k x,blkOf g' σ' k=some x→ ∃ k',blkOf g σ k'=some x∧(k=b→k'=a)∧(k≠b→k'=k∧k≠a):=fun k x q=>by
    by_cases h1:k=a
    ·subst h1;rw [ba] at q;cases q
    · by_cases h2:k=b
      ·subst h2;exact⟨a,by rw [← bb];exact q,fun _=>rfl,fun h=>absurd rfl h⟩
      ·exact⟨k,by rw [← bo k h1 h2];exact q,fun h=>absurd h h2,fun _=>⟨rfl,h1⟩⟩
  have hMx:Mx M0 g' σ'=Mx M0 g σ:=by
    funext x
    refine propext ⟨fun h=>h.imp id fun⟨k,q⟩=>?_,fun h=>h.imp id fun⟨k,q⟩=>?_⟩
    ·obtain⟨k',q', -, -⟩:=hsub k x q;exact⟨k',q'⟩
    · by_cases h1:k=a
      ·subst h1;exact⟨b,by rw [bb];exact q⟩
      · by_cases h2:k=b
        ·subst h2;rw [bb0] at q;cases q
        ·exact⟨k,by rw [bo k h1 h2];exact q⟩
  have hG :GrowO (some (g,σ)) (some (g',σ')):=by
    refine⟨fun k ds q=>⟨?_,by rw [gb]⟩,fun k e' n' len ds q=>?_,fun k q=>?_⟩
    · by_cases h3:k=c
      ·subst h3;exact⟨_,lc⟩
      · exact⟨ds,by
          have q:lkE σ k=_:=q
          show lkE σ' k=_
          rw [lo k h3 (fun h=>by rw [h,hb] at q;cases q) (fun h=>by rw [h,ha] at q;cases q)];exact q⟩
    · have q:lkE σ k=some (.row e' n' len ds):=q
      show lkE σ' k=some .dead∨_
      by_cases h1:k=a
      ·subst h1;exact .inl la
      · have h2:k≠b:=fun h=>by rw [h,hb] at q;cases q
        have h3:k≠c:=fun h=>by rw [h,hc] at q;cases q
        exact .inr ⟨e',n',len,ds,by show lkE σ' k=_;rw [lo k h3 h2 h1];exact q,Nat.le_refl _,fun _=>by show g'.row k=g.row k;rw [gr,if_neg h2]⟩
    · have q:lkE σ k=some .dead:=q
      show lkE σ' k=_
      rw [lo k (fun h=>by rw [h,hc] at q;cases q) (fun h=>by rw [h,hb] at q;cases q) (fun h=>by rw [h,ha] at q;cases q)];exact q
  have hr:∀ d v,Rep (Mx M0 g σ) w (some (g,σ)) d v→Rep (Mx M0 g σ) w (some (g',σ')) d v:=fun d v q=>Rep.step hG (Mut.refl (fun _=>False) w) (fun _ _ e=>e.elim) (fun _ _ q=>q) d v q
  have hrl:∀ d v,RepL (Mx M0 g σ) w (some (g,σ)) d v→RepL (Mx M0 g σ) w (some (g',σ')) d v:=fun d v q=>RepL.step hG (Mut.refl (fun _=>False) w) (fun _ _ e=>e.elim) (fun _ _ q=>q) d v q
  refine⟨g',hs.chg,hs.m0,?_,hs.sz,fun t=>by show Rep (Mx M0 g' σ') w _ _ _;rw [hMx];exact hr _ _ (hs.tm t),fun k x he=>?_,fun k k' x q1 q2=>?_,fun k x q=>?_,fun k=>⟨fun ds q=>?_,fun e' n' len ds q=>?_⟩,hs.glo⟩
  · obtain⟨Ds,h1,h2,h3⟩:=hs.df
    exact⟨Ds,h1,h2,fun D hD=>⟨(h3 D hD).1,fun k q=>by
      obtain⟨k',q', -, -⟩:=hsub k D q
      exact (h3 D hD).2 k' q'⟩⟩
  · have he:lkE σ' k=some x:=he
    show EntOk (Mx M0 g' σ') w g' σ' k x
    rw [hMx]
    by_cases h3:k=c
    · subst h3
      rw [lc] at he;cases he
      obtain⟨vs,o,q1,q2,q3⟩:=hs.ent k _ hc
      simp only [RepL] at q2
      obtain⟨u,us,rfl,r1,rfl⟩:=q2
      refine⟨[u],o,by rw [gb];exact q1,?_,q3.of rfl⟩
      simp only [RepL]
      refine⟨u,[],rfl,?_,rfl⟩
      simp only [Rep] at r1 ⊢
      obtain⟨g0,σ0,e0,r2,a0,c0,r3⟩:=r1
      cases e0
      obtain⟨r4,r5⟩:=hc_ ha r2
      exact⟨g',σ',rfl,.inr ⟨e,n,L,cs,lb,Nat.le_refl _,fun _=>by rw [gr,if_pos rfl];exact r5 rfl⟩,a0,c0,r3⟩
    · by_cases h2:k=b
      · subst h2
        rw [lb] at he;cases he
        obtain⟨vs,q1,q2⟩:=hs.ent a _ ha
        exact⟨vs,by rw [gr,if_pos rfl];exact q1,hrl _ _ q2⟩
      · by_cases h1:k=a
        ·subst h1;rw [la] at he;cases he;trivial
        · rw [lo k h3 h2 h1] at he
          have h0:=hs.ent k x he
          cases x with
          |box ds=>obtain⟨vs,o,q1,q2,q3⟩:=h0;exact⟨vs,o,by rw [gb];exact q1,hrl _ _ q2,q3⟩
          |row e' n' len ds=>obtain⟨vs,q1,q2⟩:=h0;exact⟨vs,by rw [gr,if_neg h2];exact q1,hrl _ _ q2⟩
          |dead=>trivial
  · obtain⟨k1,p1,p2,p3⟩:=hsub k x q1
    obtain⟨k2,p4,p5,p6⟩:=hsub k' x q2
    have hk:=hs.sep k1 k2 x p1 p4
    by_cases h1:k=b
    · by_cases h2:k'=b
      ·rw [h1,h2]
      ·exact absurd ((p6 h2).1.symm.trans (hk.symm.trans (p2 h1))) (p6 h2).2
    · by_cases h2:k'=b
      ·exact absurd ((p3 h1).1.symm.trans (hk.trans (p5 h2))) (p3 h1).2
      ·rw [← (p3 h1).1,hk,(p6 h2).1]
  · obtain⟨k',q', -, -⟩:=hsub k x q
    exact hs.new k' x q'
  · have q:lkE σ' k=some (.box ds):=q
    show newId N k=true∨B0.box k (g'.blk k)
    rw [gb]
    by_cases h3:k=c
    ·subst h3;exact (hs.anc k).1 _ hc
    · by_cases h2:k=b
      ·subst h2;exact .inl hid
      · by_cases h1:k=a
        ·subst h1;rw [la] at q;cases q
        ·rw [lo k h3 h2 h1] at q;exact (hs.anc k).1 _ q
  · have q:lkE σ' k=some (.row e' n' len ds):=q
    show newId N k=true∨B0.row k len (g'.row k)
    by_cases h2:k=b
    ·subst h2;exact .inl hid
    · by_cases h3:k=c
      ·subst h3;rw [lc] at q;cases q
      · by_cases h1:k=a
        ·subst h1;rw [la] at q;cases q
        ·rw [lo k h3 h2 h1] at q;rw [gr,if_neg h2];exact (hs.anc k).2 _ _ _ _ q
theorem cq_ {P:Program} {b:Frame} {a:Act} {k:List Item} {cs:List Frame} {w:World} {c:Code}:step P (lone (b.atR a (.code (.scope c)::k)) cs w)= .next (lone (b.atR a (.code c:: .inScope c::k)) cs w):=
 step_lone_go (by simp [stepG,stepG.exec,Frame.atR])
theorem kn_ {P:Program} {b:Frame} {a:Act} {k:List Item} {cs:List Frame} {w:World} {c:Code}:step P (lone (b.atR a (.inScope c::k)) cs w)= .next (lone (b.atR a k) cs w):=
 step_lone_go (by simp [stepG,stepG.exec,Frame.atR])
theorem qh_ {F:Fence} {n:Nat} {P:Program} {Q:Exit→Act→World→Prop} {a:Act} {w:World} {c:Code} (h:c.wpIn F n P (Exit.noGoto Q) a w):(Code.scope c).wpIn F n P Q a w:=by
 intro b k cs hro hb hr
 have h0:(lone (b.atR a (.code (.scope c)::k)) cs w).fenced P F:=fenced_calm hb hr rfl
 obtain⟨e,a₁,w₁,hq,harr⟩:=h b (.inScope c::k) cs hro hb hr
 cases e with
 |normal=>exact⟨.normal,a₁,w₁,hq,.head h0 cq_ (StepsIn.trans harr (.one (fenced_calm hb hr rfl) kn_))⟩
 |exit id=>
  have hx:exitTo id (.inScope c::k)=exitTo id k:=by simp [exitTo]
  exact⟨.exit id,a₁,w₁,hq,fun k' hk=> .head h0 cq_ (harr.1 k' (by rw [hx];exact hk)),
   fun hr' hk=>let ⟨k₁,h1,h2⟩:=harr.2 hr' (by rw [hx];exact hk);⟨k₁,h1,.head h0 cq_ h2⟩⟩
 |goto l=>exact hq.elim
 |ret=>exact⟨_,a₁,w₁,hq,.of_steps (.one h0 cq_) harr⟩
 |panic ch=>exact⟨_,a₁,w₁,hq,.of_steps (.one h0 cq_) harr⟩
 |outgrown=>exact⟨_,a₁,w₁,hq,.of_steps (.one h0 cq_) harr⟩
def NoG (Q:Exit→DS→Prop):Exit→DS→Prop
 | .goto _,_=>False
 |e,s=>Q e s
theorem vt_ {P:Program} {N:Nat} {Q:Exit→DS→Prop} {s:DS} {c:Code} (h:DW P N c s (NoG Q)):DW P N (.scope c) s Q:=⟨fun w0 M0 B0 a w hs=>
 qh_ (wpIn_mono (h.go w0 M0 B0 a w hs) fun e a' w' ⟨s',q,r⟩=>by
  cases e with
  |normal=>exact⟨s',q,r⟩
  |exit id=>exact⟨s',q,r⟩
  |goto l=>exact q.elim
  |ret=>exact⟨s',q,r⟩
  |panic c=>exact⟨s',q,r⟩
  |outgrown=>exact⟨s',q,r⟩)⟩
def b2_ (A:Au) (U:List Int) (s:Sp):List Int:=(List.range A.f.length).map fun (p:Nat)=>U.getD (au_ A s (p:Int)).toNat 0
theorem q5_ (A:Au) (hok:AuOk A) (s:Sp) (hs:SpOk A s) (p:Int) (hp:InA A p):DFun Try.prog 96 [.flat (.int .i64 p),.ptr [.flat (.int .i64 s.sym),.flat (.int .i64 s.at_),.flat (.int .i64 s.other)] 0,.ptr (auC A) 0] (.flat (.int .i64 (au_ A s p))):=by
 have hx:=wz_ A hok s hs p hp
 rw [a1_] at hx
 rw [d1_]
 have q1:=ab_ A.r
 have q2:=al_ A.f
 have q3:=ao_ A.to
 generalize (A.r.map fun x=>D.flat (.int .i64 x))=LR at*
 generalize (A.f.map fun x=>D.flat (.bool x))=LB at*
 generalize aj_ A.to=LT at*
 refine DFun.enterA Try.func96 Try.ntmps96 ?_
 refine DW.walk ?_
 exact⟨.inr rfl,ResOk.one [] rfl rfl trivial (Vw.pers rfl)⟩
theorem vr_ (A:Au) (hok:AuOk A) (s:Sp) (hs:SpOk A s) (U:List Int) (n:Nat) (hn:A.f.length=n) (hU:U.length=n) (hf:Flat U):
  DLend Try.prog 95 [.ref 225626701274425600001 0,.clo (.func 96) [] [.ptr [.flat (.int .i64 s.sym),.flat (.int .i64 s.at_),.flat (.int .i64 s.other)] 0,.ptr (auC A) 0]] [(225626701274425600001,some (.box [.own 225626701274425600002 n])),(225626701274425600002,some (.row 3 1 n (U.map fun x=>D.flat (.int .i64 x))))] [(225626701274425600001,some (.box [.own 225626701274425600002 n])),(225626701274425600002,some (.row 3 1 n (U.map fun x=>D.flat (.int .i64 x))))] (.sl false 1 n ((b2_ A U s).map fun x=>D.flat (.int .i64 x))):=by
 have hn2:=hok.hi
 have hln:=sc_ U
 have hfd:=fun (a m:Nat) (h:U[a]?=some (m:Int))=>sz_ U hf (by omega) a m h
 have hc:=fun (p:Int) (h:InA A p)=>q5_ A hok s hs p h
 have hin:=fun (p:Int) (h:InA A p)=>db_ hok hs h
 have hat:=hf.at_
 have hHL:b2_ A U s=az_ (fun p:Nat=>U.getD (au_ A s (p:Int)).toNat 0) n n:=by rw [go_];unfold b2_;rw [hn]
 rw [hHL]
 have hp:=ab_ U
 rw [hU] at hln hfd
 have q1:=ab_ A.r
 have q2:=al_ A.f
 have q3:=ao_ A.to
 rw [d1_] at*
 generalize (A.r.map fun x=>D.flat (.int .i64 x))=LR at*
 generalize (A.f.map fun x=>D.flat (.bool x))=LB at*
 generalize aj_ A.to=LT at*
 generalize (U.map fun x=>D.flat (.int .i64 x))=LU at*
 have hz:List.replicate n (D.flat (.int .i64 0))=((az_ (fun p:Nat=>U.getD (au_ A s (p:Int)).toNat 0) n 0).map fun x=>D.flat (.int .i64 x)):=by rw [fk_];simp
 have hset:=fun j (h:j<n)=>ge_ (f:=fun p:Nat=>U.getD (au_ A s (p:Int)).toNat 0) h
 have hlen:=fun j (h:j≤n)=>do_ (f:=fun p:Nat=>U.getD (au_ A s (p:Int)).toNat 0) h
 have hpf:=fun j=>ab_ (az_ (fun p:Nat=>U.getD (au_ A s (p:Int)).toNat 0) n j)
 refine DLend.enterA Try.func95 Try.ntmps95 ?_
 refine DW.walk ?_
 refine DW.loopA (fun j:Nat=>⟨[(0,.ref 225626701274425600001 0),(1,.clo (.func 96) [] [.ptr [.flat (.int .i64 s.sym),.flat (.int .i64 s.at_),.flat (.int .i64 s.other)] 0,.ptr [.sl false 1 A.r.length LR,.sl false 1 A.f.length LB,.sl false 1 A.to.length LT] 0]),(5,.own 9 n),(11,.flat (.int .i64 ((n:Nat):Int))),(12,.flat (.int .i64 ((j:Nat):Int)))],[(225626701274425600001,some (.box [.own 225626701274425600002 n])),(225626701274425600002,some (.row 3 1 n LU)),(9,some (.row 3 1 n ((az_ (fun p:Nat=>U.getD (au_ A s (p:Int)).toNat 0) n j).map fun x=>D.flat (.int .i64 x))))]⟩) (fun j=>j≤n) (fun j=>n - j) 0 ?_ (Nat.zero_le _) (by have hp0:=hpf 0;rw [← hz] at hp0 ⊢;generalize (List.replicate n (D.flat (.int .i64 0)))=RZ at *;exact Sub.auto)
 intro j hj
 rcases Nat.lt_or_ge j n with hlt|hge
 ·have hjin:InA A (j:Int):=⟨by omega,by omega⟩
  have hcj:=hc j hjin
  obtain⟨g1,g2⟩:=hin j hjin
  have hs1:=hset j hlt
  have hl:=hlen j hj
  have hl2:(((az_ (fun p:Nat=>U.getD (au_ A s (p:Int)).toNat 0) n j).map fun x=>D.flat (.int .i64 x))).length=n:=by rw [List.length_map];exact hl
  have q0:=hpf j
  have q1:=hpf (j+1)
  obtain⟨t,ht⟩:=Int.eq_ofNat_of_zero_le g1
  rw [ht] at hcj g2
  obtain⟨u,hu⟩:∃ u,U[t]?=some u:=⟨U[t]'(by omega),by simp⟩
  obtain⟨m,rfl, -, -⟩:=hat t u hu
  have hfj:=hfd t m hu
  have hval:U.getD (au_ A s (j:Int)).toNat 0=(m:Int):=by rw [ht];simp [List.getD,hu]
  rw [hval] at hs1
  generalize hF1:((az_ (fun p:Nat=>U.getD (au_ A s (p:Int)).toNat 0) n (j+1)).map fun x=>D.flat (.int .i64 x))=F1 at*
  generalize ((az_ (fun p:Nat=>U.getD (au_ A s (p:Int)).toNat 0) n j).map fun x=>D.flat (.int .i64 x))=F0 at*
  clear hset hlen hpf hz hc hin hat hfd hln
  refine DW.walk ?_
  rw [hs1]
  exact⟨j+1,by omega,by omega,by rw [hF1];exact Sub.auto⟩
 ·obtain rfl:n=j:=by omega
  have q0:=hpf n
  generalize ((az_ (fun p:Nat=>U.getD (au_ A s (p:Int)).toNat 0) n n).map fun x=>D.flat (.int .i64 x))=F0 at*
  clear hset hlen hpf hz hc hin hat hfd hln
  refine DW.walkTo 7 ?_
  refine DW.sub (s':=⟨[(5,.sl false 1 n F0)],[(225626701274425600001,some (.box [.own 225626701274425600002 n])),(225626701274425600002,some (.row 3 1 n LU))]⟩) Sub.auto ?_
  refine DW.walk ?_
  exact⟨.inr rfl,ResL.oneA⟩
def kk (U M:List Int):Nat→Int × Int:=fun b=>(U.getD b 0,M.getD b 0)
theorem ly_ {k:Nat→Int × Int} {p q:Nat}:firstK k p=firstK k q↔k p=k q:=by
 obtain⟨h1,h2,h3⟩:=be_ k p
 obtain⟨g1,g2,g3⟩:=be_ k q
 constructor
 ·intro h
  rw [← h2,h,g2]
 ·intro h
  exact ky_ (c7_ k p) (c7_ k q) (by rw [h2,g2,h])
theorem d8_ (U M:List Int):(da_ U M).length=U.length:=by simp [da_]
theorem hi_ {U M:List Int} {p:Nat} (hp:p<U.length):(da_ U M)[p]?=some ((firstK (kk U M) p:Nat):Int):=by
 unfold da_
 rw [List.getElem?_map,List.getElem?_range hp];rfl
theorem ga_ {U M:List Int} {p:Nat} (hp:p<U.length):(da_ U M).getD p 0=((firstK (kk U M) p:Nat):Int):=by
 rw [List.getD_eq_getElem?_getD,hi_ hp];rfl
theorem m9_ (U M:List Int):Flat (da_ U M):=⟨fun a x h=>by
 have ha:a<U.length:=by have:=(List.getElem?_eq_some_iff.1 h).1;rwa [d8_] at this
 rw [hi_ ha] at h
 obtain⟨h1,h2,h3⟩:=be_ (kk U M) a
 refine⟨firstK (kk U M) a,(Option.some.inj h).symm,h1,?_⟩
 rw [hi_ (by omega),c7_]⟩
def Tog (U:List Int) (p q:Nat):Prop:=U.getD p 0=U.getD q 0
theorem hs_ {U M:List Int} {p q:Nat} (hp:p<U.length) (hq:q<U.length):Tog (da_ U M) p q↔Tog U p q∧M.getD p 0=M.getD q 0:=by
 unfold Tog
 rw [ga_ hp,ga_ hq]
 constructor
 ·intro h
  have h:=ly_.1 (show firstK (kk U M) p=firstK (kk U M) q by omega)
  exact⟨congrArg Prod.fst h,congrArg Prod.snd h⟩
 ·intro h
  rw [ly_.2 (Prod.ext h.1 h.2)]
def nbU (U:List Int):Nat:=((List.range U.length).filter fun (a:Nat)=>decide (U.getD a 0=(a:Int))).length
theorem wu_ (U:List Int):nbU U≤U.length:=Nat.le_trans (List.length_filter_le ..) (by simp)
theorem hr_ {U:List Int} (hf:Flat U) {p:Nat} (hp:p<U.length):∃ m:Nat,U.getD p 0=(m:Int)∧m≤p∧U.getD m 0=(m:Int):=by
 obtain⟨x,hx⟩:∃ x,U[p]?=some x:=⟨U[p],by simp⟩
 obtain⟨m,rfl,h1,h2⟩:=hf.at_ p x hx
 exact⟨m,by rw [List.getD_eq_getElem?_getD,hx];rfl,h1,by rw [List.getD_eq_getElem?_getD,h2];rfl⟩
theorem mh_ {U M:List Int} (hf:Flat U) {a:Nat} (ha:a<U.length) (h:U.getD a 0=(a:Int)):(da_ U M).getD a 0=(a:Int):=by
 rw [ga_ ha]
 obtain⟨h1,h2,h3⟩:=be_ (kk U M) a
 have h4:U.getD (firstK (kk U M) a) 0=U.getD a 0:=congrArg Prod.fst h2
 obtain⟨m,e1,e2,e3⟩:=hr_ hf (p:=firstK (kk U M) a) (by omega)
 rw [h4,h] at e1
 omega
theorem ft_ {l:List Nat} {f g:Nat→Bool} (h:∀ x∈l,f x=true→g x=true):(l.filter f).length≤(l.filter g).length∧((l.filter g).length≤(l.filter f).length→ ∀ x∈l,g x=true→f x=true):=by
 induction l with
 |nil=>simp
 |cons   a l ih=>
  obtain⟨i1,i2⟩:=ih fun x hx=>h x (List.mem_cons_of_mem _ hx)
  have ha:=h a (List.mem_cons_self ..)
  by_cases hf:f a=true
  ·have hg:=ha hf
   rw [List.filter_cons_of_pos hf,List.filter_cons_of_pos hg,List.length_cons,List.length_cons]
   refine⟨by omega,fun hl x hx hgx=>?_⟩
   rcases List.mem_cons.1 hx with rfl|hx
   ·exact hf
   ·exact i2 (by omega) x hx hgx
  ·by_cases hg:g a=true
   ·    rw [List.filter_cons_of_neg hf,List.filter_cons_of_pos hg,List.length_cons]
        exact⟨by omega,fun hl=>by omega⟩
   ·    rw [List.filter_cons_of_neg hf,List.filter_cons_of_neg hg]
        refine⟨i1,fun hl x hx hgx=>?_⟩
        rcases List.mem_cons.1 hx with rfl|hx
        ·exact absurd hgx hg
        ·exact i2 hl x hx hgx
theorem ya_ {U:List Int} (M:List Int) (hf:Flat U):nbU U≤nbU (da_ U M):=by
 unfold nbU
 rw [d8_]
 exact (ft_ fun x hx h=>decide_eq_true (mh_ hf (List.mem_range.1 hx) (of_decide_eq_true h))).1
theorem sy_ {U M:List Int} (hf:Flat U) (h:nbU (da_ U M)≤nbU U):da_ U M=U:=by
 unfold nbU at h
 rw [d8_] at h
 have hs:=(ft_ (l:=List.range U.length) (f:=fun (a:Nat)=>decide (U.getD a 0=(a:Int))) (g:=fun (a:Nat)=>decide ((da_ U M).getD a 0=(a:Int))) fun x hx h=>decide_eq_true (mh_ hf (List.mem_range.1 hx) (of_decide_eq_true h))).2 h
 refine List.ext_getElem? fun p=>?_
 by_cases hp:p<U.length
 ·rw [hi_ hp]
  obtain⟨h1,h2,h3⟩:=be_ (kk U M) p
  have h4:U.getD (firstK (kk U M) p) 0=U.getD p 0:=congrArg Prod.fst h2
  have h5:=of_decide_eq_true (hs (firstK (kk U M) p) (List.mem_range.2 (by omega)) (decide_eq_true (by rw [ga_ (by omega),c7_])))
  rw [h5] at h4
  rw [h4,List.getD_eq_getElem?_getD]
  rw [List.getElem?_eq_getElem hp];rfl
 ·rw [List.getElem?_eq_none (by rw [d8_];omega),List.getElem?_eq_none (by omega)]
def fn_ (n:Nat):List Int:=List.replicate n 0
theorem px_ {n p:Nat}:(fn_ n).getD p 0=0:=by
 unfold fn_
 rw [List.getD_eq_getElem?_getD,List.getElem?_replicate]
 split <;> rfl
theorem nj_ (n:Nat):Flat (fn_ n):=⟨fun a x h=>by
 unfold fn_ at h ⊢
 rw [List.getElem?_replicate] at h
 split at h
 ·rename_i ha
  exact⟨0,(Option.some.inj h).symm,Nat.zero_le _,by rw [List.getElem?_replicate,if_pos (by omega)];rfl⟩
 ·cases h⟩
def finM (A:Au):List Int:=(List.range A.f.length).map fun (s:Nat)=>if A.f.getD s false then 1 else 0
theorem kk_ {A:Au} {p:Nat} (hp:p<A.f.length):(finM A).getD p 0=if finI A (p:Int) then 1 else 0:=by
 unfold finM
 rw [List.getD_eq_getElem?_getD,List.getElem?_map,List.getElem?_range hp]
 simp [finI]
theorem ea_ {A:Au} {U:List Int} {s:Sp} {p:Nat} (hp:p<A.f.length):(b2_ A U s).getD p 0=U.getD (au_ A s (p:Int)).toNat 0:=by
 unfold b2_
 rw [List.getD_eq_getElem?_getD,List.getElem?_map,List.getElem?_range hp];rfl
def ev_ (A:Au) (U:List Int) (l:List Sp):List Int:=l.foldl (fun U s=>da_ U (b2_ A U s)) U
theorem n2_ (A:Au) (U:List Int) (l:List Sp) (s:Sp):ev_ A U (l++ [s])=da_ (ev_ A U l) (b2_ A (ev_ A U l) s):=by simp [ev_]
theorem nr_ (A:Au) (U:List Int) (s:Sp) (l:List Sp):ev_ A U (s::l)=ev_ A (da_ U (b2_ A U s)) l:=rfl
noncomputable def rndU (A:Au):Nat→List Int
 |0=>da_ (fn_ A.f.length) (finM A)
 |k+1=>ev_ A (rndU A k) (ag_ A)
structure Way (A:Au) (U:List Int):Prop where
 len:U.length=A.f.length
 flat:Flat U
 eqv:∀ p q:Nat,p<A.f.length→q<A.f.length→Eqv A (p:Int) (q:Int)→Tog U p q
 fin:∀ p q:Nat,p<A.f.length→q<A.f.length→Tog U p q→finI A (p:Int)=finI A (q:Int)
theorem u6_ {A:Au}:Way A (rndU A 0):=by
 have hl:(fn_ A.f.length).length=A.f.length:=by simp [fn_]
 have ht:∀ p q,p<A.f.length→q<A.f.length→(Tog (rndU A 0) p q↔finI A (p:Int)=finI A (q:Int)):=fun p q hp hq=>by
  unfold rndU
  rw [hs_ (by omega) (by omega),kk_ hp,kk_ hq]
  unfold Tog
  rw [px_,px_]
  cases finI A (p:Int) <;> cases finI A (q:Int) <;> simp
 exact⟨by unfold rndU;rw [d8_,hl],by unfold rndU;exact m9_ _ _,fun p q hp hq h=>(ht p q hp hq).2 h.fin,fun p q hp hq h=>(ht p q hp hq).1 h⟩
theorem uw_ {A:Au} (hok:AuOk A) {U:List Int} (h:Way A U) {s:Sp} (hs:s∈ag_ A):Way A (da_ U (b2_ A U s)):=by
 have hl:=h.len
 refine⟨by rw [d8_,hl],m9_ _ _,fun p q hp hq e=>(hs_ (by omega) (by omega)).2 ⟨h.eqv p q hp hq e,?_⟩,fun p q hp hq e=>h.fin p q hp hq ((hs_ (by omega) (by omega)).1 e).1⟩
 rw [ea_ hp,ea_ hq]
 have hs':=bx_.1 hs
 obtain⟨a0,a1⟩:=db_ hok hs' (p:=(p:Int)) ⟨by omega,by omega⟩
 obtain⟨b0,b1⟩:=db_ hok hs' (p:=(q:Int)) ⟨by omega,by omega⟩
 exact h.eqv _ _ (by omega) (by omega) (by rw [Int.toNat_of_nonneg a0,Int.toNat_of_nonneg b0];exact e.next hs)
theorem ey_ {A:Au} (hok:AuOk A):∀ (l:List Sp),(∀ s∈l,s∈ag_ A)→ ∀ U,Way A U→Way A (ev_ A U l)∧nbU U≤nbU (ev_ A U l)∧(nbU (ev_ A U l)≤nbU U→ev_ A U l=U∧ ∀ s∈l,da_ U (b2_ A U s)=U)
 | [],_,U,h=>⟨h,Nat.le_refl _,fun _=>⟨rfl,fun s hs=>by cases hs⟩⟩
 |s::l,hl,U,h=>by
  rw [nr_]
  have h1:=uw_ hok h (hl s (List.mem_cons_self ..))
  have h2:=ya_ (b2_ A U s) h.flat
  obtain⟨i1,i2,i3⟩:=ey_ hok l (fun t ht=>hl t (List.mem_cons_of_mem _ ht)) _ h1
  refine⟨i1,by omega,fun hle=>?_⟩
  have h3:=sy_ (M:=b2_ A U s) h.flat (by omega)
  rw [h3] at i3 ⊢
  rw [h3] at hle
  obtain⟨j1,j2⟩:=i3 hle
  exact⟨j1,fun t ht=>by
   rcases List.mem_cons.1 ht with rfl|ht
   ·exact h3
   ·exact j2 t ht⟩
theorem f5_ {A:Au} (hok:AuOk A):∀ k,Way A (rndU A k)
 |0=>u6_
 |k+1=>(ey_ hok _ (fun _ h=>h) _ (f5_ hok k)).1
theorem wy_ {A:Au} (hok:AuOk A) (k:Nat):nbU (rndU A k)≤nbU (rndU A (k+1)):=(ey_ hok _ (fun _ h=>h) _ (f5_ hok k)).2.1
def clsU (A:Au):List Int:=(List.range A.f.length).map fun (p:Nat)=>((clsA A p:Nat):Int)
theorem xc_ {A:Au} (hok:AuOk A) {k:Nat} (h:nbU (rndU A (k+1))≤nbU (rndU A k)):rndU A k=clsU A∧rndU A (k+1)=clsU A:=by
 obtain⟨h1,h2⟩:=(ey_ hok _ (fun _ h=>h) _ (f5_ hok k)).2.2 h
 have hw:=f5_ hok k
 have hr:rndU A (k+1)=rndU A k:=h1
 rw [hr]
 generalize rndU A k=U at*
 have hl:=hw.len
 have hg:=fun p (hp:p<A.f.length)=>hr_ hw.flat (p:=p) (by omega)
 have key:=rd_ hok (fun p=>(U.getD p 0).toNat) (fun p hp=>by obtain⟨m,e1,e2,e3⟩:=hg p hp;rw [e1];simpa using e2) (fun p hp=>by
   obtain⟨m,e1,e2,e3⟩:=hg p hp
   show (U.getD (U.getD p 0).toNat 0).toNat=_
   rw [e1,Int.toNat_natCast,e3,Int.toNat_natCast])
  (fun p q hp hq e=>by have:=hw.eqv p q hp hq e;unfold Tog at this;rw [this])
  (fun p q hp hq e=>by
   obtain⟨m,e1,e2,e3⟩:=hg p hp
   obtain⟨m',e1',e2',e3'⟩:=hg q hq
   have e:(U.getD p 0).toNat=(U.getD q 0).toNat:=e
   exact hw.fin p q hp hq (by unfold Tog;omega))
  (fun p q hp hq e s hs=>by
   obtain⟨m,e1,e2,e3⟩:=hg p hp
   obtain⟨m',e1',e2',e3'⟩:=hg q hq
   have e:(U.getD p 0).toNat=(U.getD q 0).toNat:=e
   have ht:Tog U p q:=by unfold Tog;omega
   rw [← h2 s hs,hs_ (by omega) (by omega),ea_ hp,ea_ hq] at ht
   rw [ht.2])
 have:U=clsU A:=by
  refine List.ext_getElem? fun p=>?_
  by_cases hp:p<A.f.length
  ·have hk:=key p hp
   obtain⟨m,e1,e2,e3⟩:=hg p hp
   unfold clsU
   rw [List.getElem?_map,List.getElem?_range hp,List.getElem?_eq_getElem (by omega)]
   have:U[p]'(by omega)=U.getD p 0:=by rw [List.getD_eq_getElem?_getD,List.getElem?_eq_getElem (by omega)];rfl
   have hk:(U.getD p 0).toNat=clsA A p:=hk
   rw [this,e1]
   simp only [Option.map_some]
   congr 1
   omega
  ·rw [List.getElem?_eq_none (by omega),List.getElem?_eq_none (by simp [clsU];omega)]
 exact⟨this,this⟩
end Go.Proofs.Ytichhfbkhnimmaa
