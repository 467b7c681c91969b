/- A row under another name. No condition. -/
import Derived.Scope
import Derived.Test.YtichhfbkhnimmaaYE1
set_option linter.unusedSimpArgs false
set_option linter.unusedVariables false
set_option maxHeartbeats 4000000
set_option maxRecDepth 8000
namespace Go.Proofs.Ytichhfbkhnimmaa
open Go Go.RowKit Go.PP Go.Dm Go.Rt Go.Mn
theorem su_ {N:Nat} {σ:Sg} {f:Fr} {c a b e n L:Nat} {cs:List D} (hc:lkE σ c=some (.box [.own a L])) (ha:lkE σ a=some (.row e n L cs)) (hb:lkE σ b=none) (hid:newId N b=true):
    Dm.Sub N ⟨f,σ⟩ ⟨f,(c,some (.box [.own b L]))::(b,some (.row e n L cs))::(a,some .dead)::σ⟩:=by
  intro w0 M0 B0 act w ⟨g,hs⟩
  have hca:c≠a:=fun q=>by rw [q,ha] at hc;cases hc
  have hcb:c≠b:=fun q=>by rw [q,hb] at hc;cases hc
  have hab:a≠b:=fun q=>by rw [q,hb] at ha;cases ha
  obtain⟨g',hg'⟩:∃ g':Gh,g'=⟨g.blk,fun k=>if k=b then g.row a else g.row k⟩:=⟨_,rfl⟩
  have gb:g'.blk=g.blk:=by rw [hg']
  have gr:∀ k,g'.row k=if k=b then g.row a else g.row k:=by rw [hg'];intro k;rfl
  clear hg'
  generalize hσ:(c,some (Ent.box [.own b L]))::(b,some (Ent.row e n L cs))::(a,some Ent.dead)::σ=σ'
  have l:∀ k,lkE σ' k=if c=k then some (Ent.box [.own b L]) else if b=k then some (Ent.row e n L cs) else if a=k then some Ent.dead else lkE σ k:=by
    intro k;rw [← hσ,ae_,ae_,ae_]
  have lc:lkE σ' c=some (.box [.own b L]):=by rw [l,if_pos rfl]
  have lb:lkE σ' b=some (.row e n L cs):=by rw [l,if_neg hcb,if_pos rfl]
  have la:lkE σ' a=some .dead:=by rw [l,if_neg hca,if_neg (fun q=>hab q.symm),if_pos rfl]
  have lo:∀ k,k≠c→k≠b→k≠a→lkE σ' k=lkE σ k:=fun k h1 h2 h3=>by rw [l,if_neg (fun q=>h1 q.symm),if_neg (fun q=>h2 q.symm),if_neg (fun q=>h3 q.symm)]
  clear l hσ
  have ba:blkOf g' σ' a=none:=by unfold blkOf;rw [la]
  have bb0:blkOf g σ b=none:=by unfold blkOf;rw [hb]
  have bb:blkOf g' σ' b=blkOf g σ a:=by unfold blkOf;rw [lb,ha,gr,if_pos rfl]
  have bo:∀ k,k≠a→k≠b→blkOf g' σ' k=blkOf g σ k:=fun k h1 h2=>by
    by_cases h3:k=c
    ·subst h3;unfold blkOf;rw [lc,hc,gb]
    ·unfold blkOf;rw [lo k h3 h2 h1,gb,gr,if_neg h2]
  have hsub:∀ k x,blkOf g' σ' k=some x→ ∃ k',blkOf g σ k'=some x∧(k=b→k'=a)∧(k≠b→k'=k∧k≠a):=fun k x q=>by
    by_cases h1:k=a
    ·subst h1;rw [ba] at q;cases q
    · by_cases h2:k=b
      ·subst h2;exact⟨a,by rw [← bb];exact q,fun _=>rfl,fun h=>absurd rfl h⟩
      ·exact⟨k,by rw [← bo k h1 h2];exact q,fun h=>absurd h h2,fun _=>⟨rfl,h1⟩⟩
  have hMx:Mx M0 g' σ'=Mx M0 g σ:=by
    funext x
    refine propext ⟨fun h=>h.imp id fun⟨k,q⟩=>?_,fun h=>h.imp id fun⟨k,q⟩=>?_⟩
    ·obtain⟨k',q', -, -⟩:=hsub k x q;exact⟨k',q'⟩
    · by_cases h1:k=a
      ·subst h1;exact⟨b,by rw [bb];exact q⟩
      · by_cases h2:k=b
        ·subst h2;rw [bb0] at q;cases q
        ·exact⟨k,by rw [bo k h1 h2];exact q⟩
  have hG :GrowO (some (g,σ)) (some (g',σ')):=by
    refine⟨fun k ds q=>⟨?_,by rw [gb]⟩,fun k e' n' len ds q=>?_,fun k q=>?_⟩
    · by_cases h3:k=c
      ·subst h3;exact⟨_,lc⟩
      · exact⟨ds,by
          have q:lkE σ k=_:=q
          show lkE σ' k=_
          rw [lo k h3 (fun h=>by rw [h,hb] at q;cases q) (fun h=>by rw [h,ha] at q;cases q)];exact q⟩
    · have q:lkE σ k=some (.row e' n' len ds):=q
      show lkE σ' k=some .dead∨_
      by_cases h1:k=a
      ·subst h1;exact .inl la
      · have h2:k≠b:=fun h=>by rw [h,hb] at q;cases q
        have h3:k≠c:=fun h=>by rw [h,hc] at q;cases q
        exact .inr ⟨e',n',len,ds,by show lkE σ' k=_;rw [lo k h3 h2 h1];exact q,Nat.le_refl _,fun _=>by show g'.row k=g.row k;rw [gr,if_neg h2]⟩
    · have q:lkE σ k=some .dead:=q
      show lkE σ' k=_
      rw [lo k (fun h=>by rw [h,hc] at q;cases q) (fun h=>by rw [h,hb] at q;cases q) (fun h=>by rw [h,ha] at q;cases q)];exact q
  have hr:∀ d v,Rep (Mx M0 g σ) w (some (g,σ)) d v→Rep (Mx M0 g σ) w (some (g',σ')) d v:=fun d v q=>Rep.step hG (Mut.refl (fun _=>False) w) (fun _ _ e=>e.elim) (fun _ _ q=>q) d v q
  have hrl:∀ d v,RepL (Mx M0 g σ) w (some (g,σ)) d v→RepL (Mx M0 g σ) w (some (g',σ')) d v:=fun d v q=>RepL.step hG (Mut.refl (fun _=>False) w) (fun _ _ e=>e.elim) (fun _ _ q=>q) d v q
  refine⟨g',hs.chg,hs.m0,?_,hs.sz,fun t=>by show Rep (Mx M0 g' σ') w _ _ _;rw [hMx];exact hr _ _ (hs.tm t),fun k x he=>?_,fun k k' x q1 q2=>?_,fun k x q=>?_,fun k=>⟨fun ds q=>?_,fun e' n' len ds q=>?_⟩,hs.glo⟩
  · obtain⟨Ds,h1,h2,h3⟩:=hs.df
    exact⟨Ds,h1,h2,fun D hD=>⟨(h3 D hD).1,fun k q=>by
      obtain⟨k',q', -, -⟩:=hsub k D q
      exact (h3 D hD).2 k' q'⟩⟩
  · have he:lkE σ' k=some x:=he
    show EntOk (Mx M0 g' σ') w g' σ' k x
    rw [hMx]
    by_cases h3:k=c
    · subst h3
      rw [lc] at he;cases he
      obtain⟨vs,o,q1,q2,q3⟩:=hs.ent k _ hc
      simp only [RepL] at q2
      obtain⟨u,us,rfl,r1,rfl⟩:=q2
      refine⟨[u],o,by rw [gb];exact q1,?_,q3.of rfl⟩
      simp only [RepL]
      refine⟨u,[],rfl,?_,rfl⟩
      simp only [Rep] at r1 ⊢
      obtain⟨g0,σ0,e0,r2,a0,c0,r3⟩:=r1
      cases e0
      obtain⟨r4,r5⟩:=hm_ ha r2
      exact⟨g',σ',rfl,.inr ⟨e,n,L,cs,lb,Nat.le_refl _,fun _=>by rw [gr,if_pos rfl];exact r5 rfl⟩,a0,c0,r3⟩
    · by_cases h2:k=b
      · subst h2
        rw [lb] at he;cases he
        obtain⟨vs,q1,q2⟩:=hs.ent a _ ha
        exact⟨vs,by rw [gr,if_pos rfl];exact q1,hrl _ _ q2⟩
      · by_cases h1:k=a
        ·subst h1;rw [la] at he;cases he;trivial
        · rw [lo k h3 h2 h1] at he
          have h0:=hs.ent k x he
          cases x with
          |box ds=>obtain⟨vs,o,q1,q2,q3⟩:=h0;exact⟨vs,o,by rw [gb];exact q1,hrl _ _ q2,q3⟩
          |row e' n' len ds=>obtain⟨vs,q1,q2⟩:=h0;exact⟨vs,by rw [gr,if_neg h2];exact q1,hrl _ _ q2⟩
          |dead=>trivial
  · obtain⟨k1,p1,p2,p3⟩:=hsub k x q1
    obtain⟨k2,p4,p5,p6⟩:=hsub k' x q2
    have hk:=hs.sep k1 k2 x p1 p4
    by_cases h1:k=b
    · by_cases h2:k'=b
      ·rw [h1,h2]
      ·exact absurd ((p6 h2).1.symm.trans (hk.symm.trans (p2 h1))) (p6 h2).2
    · by_cases h2:k'=b
      ·exact absurd ((p3 h1).1.symm.trans (hk.trans (p5 h2))) (p3 h1).2
      ·rw [← (p3 h1).1,hk,(p6 h2).1]
  · obtain⟨k',q', -, -⟩:=hsub k x q
    exact hs.new k' x q'
  · have q:lkE σ' k=some (.box ds):=q
    show newId N k=true∨B0.box k (g'.blk k)
    rw [gb]
    by_cases h3:k=c
    ·subst h3;exact (hs.anc k).1 _ hc
    · by_cases h2:k=b
      ·subst h2;exact .inl hid
      · by_cases h1:k=a
        ·subst h1;rw [la] at q;cases q
        ·rw [lo k h3 h2 h1] at q;exact (hs.anc k).1 _ q
  · have q:lkE σ' k=some (.row e' n' len ds):=q
    show newId N k=true∨B0.row k len (g'.row k)
    by_cases h2:k=b
    ·subst h2;exact .inl hid
    · by_cases h3:k=c
      ·subst h3;rw [lc] at q;cases q
      · by_cases h1:k=a
        ·subst h1;rw [la] at q;cases q
        ·rw [lo k h3 h2 h1] at q;rw [gr,if_neg h2];exact (hs.anc k).2 _ _ _ _ q
theorem c0_ {P:Program} {b:Frame} {a:Act} {k:List Item} {cs:List Frame} {w:World} {c:Code}:step P (lone (b.atR a (.code (.scope c)::k)) cs w)= .next (lone (b.atR a (.code c:: .inScope c::k)) cs w):=
 step_lone_go (by simp [stepG,stepG.exec,Frame.atR])
theorem lm_ {P:Program} {b:Frame} {a:Act} {k:List Item} {cs:List Frame} {w:World} {c:Code}:step P (lone (b.atR a (.inScope c::k)) cs w)= .next (lone (b.atR a k) cs w):=
 step_lone_go (by simp [stepG,stepG.exec,Frame.atR])
theorem qw_ {F:Fence} {n:Nat} {P:Program} {Q:Exit→Act→World→Prop} {a:Act} {w:World} {c:Code} (h:c.wpIn F n P (Exit.noGoto Q) a w):(Code.scope c).wpIn F n P Q a w:=by
 intro b k cs hro hb hr
 have h0:(lone (b.atR a (.code (.scope c)::k)) cs w).fenced P F:=fenced_calm hb hr rfl
 obtain⟨e,a₁,w₁,hq,harr⟩:=h b (.inScope c::k) cs hro hb hr
 cases e with
 |normal=>exact⟨.normal,a₁,w₁,hq,.head h0 c0_ (StepsIn.trans harr (.one (fenced_calm hb hr rfl) lm_))⟩
 |exit id=>
  have hx:exitTo id (.inScope c::k)=exitTo id k:=by simp [exitTo]
  exact⟨.exit id,a₁,w₁,hq,fun k' hk=> .head h0 c0_ (harr.1 k' (by rw [hx];exact hk)),
   fun hr' hk=>let ⟨k₁,h1,h2⟩:=harr.2 hr' (by rw [hx];exact hk);⟨k₁,h1,.head h0 c0_ h2⟩⟩
 |goto l=>exact hq.elim
 |ret=>exact⟨_,a₁,w₁,hq,.of_steps (.one h0 c0_) harr⟩
 |panic ch=>exact⟨_,a₁,w₁,hq,.of_steps (.one h0 c0_) harr⟩
 |outgrown=>exact⟨_,a₁,w₁,hq,.of_steps (.one h0 c0_) harr⟩
def NoG (Q:Exit→DS→Prop):Exit→DS→Prop
 | .goto _,_=>False
 |e,s=>Q e s
theorem vy_ {P:Program} {N:Nat} {Q:Exit→DS→Prop} {s:DS} {c:Code} (h:DW P N c s (NoG Q)):DW P N (.scope c) s Q:=⟨fun w0 M0 B0 a w hs=>
 qw_ (wpIn_mono (h.go w0 M0 B0 a w hs) fun e a' w' ⟨s',q,r⟩=>by
  cases e with
  |normal=>exact⟨s',q,r⟩
  |exit id=>exact⟨s',q,r⟩
  |goto l=>exact q.elim
  |ret=>exact⟨s',q,r⟩
  |panic c=>exact⟨s',q,r⟩
  |outgrown=>exact⟨s',q,r⟩)⟩
def ca_ (A:Au) (U:List Int) (s:Sp):List Int:=(List.range A.f.length).map fun (p:Nat)=>U.getD (an_ A s (p:Int)).toNat 0
theorem qt_ (A:Au) (hok:AuOk A) (s:Sp) (hs:SpOk A s) (p:Int) (hp:InA A p):DFun Try.prog 96 [.flat (.int .i64 p),.ptr [.flat (.int .i64 s.sym),.flat (.int .i64 s.at_),.flat (.int .i64 s.other)] 0,.ptr (auC A) 0] (.flat (.int .i64 (an_ A s p))):=by
 have hx:=wo_ A hok s hs p hp
 rw [au_] at hx
 rw [d0_]
 have q1:=ad_ A.r
 have q2:=ai_ A.f
 have q3:=al_ A.to
 generalize (A.r.map fun x=>D.flat (.int .i64 x))=LR at*
 generalize (A.f.map fun x=>D.flat (.bool x))=LB at*
 generalize ag_ A.to=LT at*
 refine DFun.enterA Try.func96 Try.ntmps96 ?_
 refine DW.walk ?_
 exact⟨.inr rfl,ResOk.one [] rfl rfl trivial (Vw.pers rfl)⟩
theorem vf_ (A:Au) (hok:AuOk A) (s:Sp) (hs:SpOk A s) (U:List Int) (n:Nat) (hn:A.f.length=n) (hU:U.length=n) (hf:Flat U):
  DLend Try.prog 95 [.ref 225626701274425600001 0,.clo (.func 96) [] [.ptr [.flat (.int .i64 s.sym),.flat (.int .i64 s.at_),.flat (.int .i64 s.other)] 0,.ptr (auC A) 0]] [(225626701274425600001,some (.box [.own 225626701274425600002 n])),(225626701274425600002,some (.row 3 1 n (U.map fun x=>D.flat (.int .i64 x))))] [(225626701274425600001,some (.box [.own 225626701274425600002 n])),(225626701274425600002,some (.row 3 1 n (U.map fun x=>D.flat (.int .i64 x))))] (.sl false 1 n ((ca_ A U s).map fun x=>D.flat (.int .i64 x))):=by
 have hn2:=hok.hi
 have hln:=sl_ U
 have hfd:=fun (a m:Nat) (h:U[a]?=some (m:Int))=>tp_ U hf (by omega) a m h
 have hc:=fun (p:Int) (h:InA A p)=>qt_ A hok s hs p h
 have hin:=fun (p:Int) (h:InA A p)=>b4_ hok hs h
 have hat:=hf.at_
 have hHL:ca_ A U s=a9_ (fun p:Nat=>U.getD (an_ A s (p:Int)).toNat 0) n n:=by rw [gy_];unfold ca_;rw [hn]
 rw [hHL]
 have hp:=ad_ U
 rw [hU] at hln hfd
 have q1:=ad_ A.r
 have q2:=ai_ A.f
 have q3:=al_ A.to
 rw [d0_] at*
 generalize (A.r.map fun x=>D.flat (.int .i64 x))=LR at*
 generalize (A.f.map fun x=>D.flat (.bool x))=LB at*
 generalize ag_ A.to=LT at*
 generalize (U.map fun x=>D.flat (.int .i64 x))=LU at*
 have hz:List.replicate n (D.flat (.int .i64 0))=((a9_ (fun p:Nat=>U.getD (an_ A s (p:Int)).toNat 0) n 0).map fun x=>D.flat (.int .i64 x)):=by rw [fu_];simp
 have hset:=fun j (h:j<n)=>gm_ (f:=fun p:Nat=>U.getD (an_ A s (p:Int)).toNat 0) h
 have hlen:=fun j (h:j≤n)=>dt_ (f:=fun p:Nat=>U.getD (an_ A s (p:Int)).toNat 0) h
 have hpf:=fun j=>ad_ (a9_ (fun p:Nat=>U.getD (an_ A s (p:Int)).toNat 0) n j)
 refine DLend.enterA Try.func95 Try.ntmps95 ?_
 refine DW.walk ?_
 refine DW.loopA (fun j:Nat=>⟨[(0,.ref 225626701274425600001 0),(1,.clo (.func 96) [] [.ptr [.flat (.int .i64 s.sym),.flat (.int .i64 s.at_),.flat (.int .i64 s.other)] 0,.ptr [.sl false 1 A.r.length LR,.sl false 1 A.f.length LB,.sl false 1 A.to.length LT] 0]),(5,.own 9 n),(11,.flat (.int .i64 ((n:Nat):Int))),(12,.flat (.int .i64 ((j:Nat):Int)))],[(225626701274425600001,some (.box [.own 225626701274425600002 n])),(225626701274425600002,some (.row 3 1 n LU)),(9,some (.row 3 1 n ((a9_ (fun p:Nat=>U.getD (an_ A s (p:Int)).toNat 0) n j).map fun x=>D.flat (.int .i64 x))))]⟩) (fun j=>j≤n) (fun j=>n - j) 0 ?_ (Nat.zero_le _) (by have hp0:=hpf 0;rw [← hz] at hp0 ⊢;generalize (List.replicate n (D.flat (.int .i64 0)))=RZ at *;exact Sub.auto)
 intro j hj
 rcases Nat.lt_or_ge j n with hlt|hge
 ·have hjin:InA A (j:Int):=⟨by omega,by omega⟩
  have hcj:=hc j hjin
  obtain⟨g1,g2⟩:=hin j hjin
  have hs1:=hset j hlt
  have hl:=hlen j hj
  have hl2:(((a9_ (fun p:Nat=>U.getD (an_ A s (p:Int)).toNat 0) n j).map fun x=>D.flat (.int .i64 x))).length=n:=by rw [List.length_map];exact hl
  have q0:=hpf j
  have q1:=hpf (j+1)
  obtain⟨t,ht⟩:=Int.eq_ofNat_of_zero_le g1
  rw [ht] at hcj g2
  obtain⟨u,hu⟩:∃ u,U[t]?=some u:=⟨U[t]'(by omega),by simp⟩
  obtain⟨m,rfl, -, -⟩:=hat t u hu
  have hfj:=hfd t m hu
  have hval:U.getD (an_ A s (j:Int)).toNat 0=(m:Int):=by rw [ht];simp [List.getD,hu]
  rw [hval] at hs1
  generalize hF1:((a9_ (fun p:Nat=>U.getD (an_ A s (p:Int)).toNat 0) n (j+1)).map fun x=>D.flat (.int .i64 x))=F1 at*
  generalize ((a9_ (fun p:Nat=>U.getD (an_ A s (p:Int)).toNat 0) n j).map fun x=>D.flat (.int .i64 x))=F0 at*
  clear hset hlen hpf hz hc hin hat hfd hln
  refine DW.walk ?_
  rw [hs1]
  exact⟨j+1,by omega,by omega,by rw [hF1];exact Sub.auto⟩
 ·obtain rfl:n=j:=by omega
  have q0:=hpf n
  generalize ((a9_ (fun p:Nat=>U.getD (an_ A s (p:Int)).toNat 0) n n).map fun x=>D.flat (.int .i64 x))=F0 at*
  clear hset hlen hpf hz hc hin hat hfd hln
  refine DW.walkTo 7 ?_
  refine DW.sub (s':=⟨[(5,.sl false 1 n F0)],[(225626701274425600001,some (.box [.own 225626701274425600002 n])),(225626701274425600002,some (.row 3 1 n LU))]⟩) Sub.auto ?_
  refine DW.walk ?_
  exact⟨.inr rfl,ResL.oneA⟩
def kk (U M:List Int):Nat→Int × Int:=fun b=>(U.getD b 0,M.getD b 0)
theorem ne_ {k:Nat→Int × Int} {p q:Nat}:firstK k p=firstK k q↔k p=k q:=by
 obtain⟨h1,h2,h3⟩:=bp_ k p
 obtain⟨g1,g2,g3⟩:=bp_ k q
 constructor
 ·intro h
  rw [← h2,h,g2]
 ·intro h
  exact lh_ (db_ k p) (db_ k q) (by rw [h2,g2,h])
theorem eb_ (U M:List Int):(dh_ U M).length=U.length:=by simp [dh_]
theorem hu_ {U M:List Int} {p:Nat} (hp:p<U.length):(dh_ U M)[p]?=some ((firstK (kk U M) p:Nat):Int):=by
 unfold dh_
 rw [List.getElem?_map,List.getElem?_range hp];rfl
theorem gq_ {U M:List Int} {p:Nat} (hp:p<U.length):(dh_ U M).getD p 0=((firstK (kk U M) p:Nat):Int):=by
 rw [List.getD_eq_getElem?_getD,hu_ hp];rfl
theorem mo_ (U M:List Int):Flat (dh_ U M):=⟨fun a x h=>by
 have ha:a<U.length:=by have:=(List.getElem?_eq_some_iff.1 h).1;rwa [eb_] at this
 rw [hu_ ha] at h
 obtain⟨h1,h2,h3⟩:=bp_ (kk U M) a
 refine⟨firstK (kk U M) a,(Option.some.inj h).symm,h1,?_⟩
 rw [hu_ (by omega),db_]⟩
def Tog (U:List Int) (p q:Nat):Prop:=U.getD p 0=U.getD q 0
theorem h3_ {U M:List Int} {p q:Nat} (hp:p<U.length) (hq:q<U.length):Tog (dh_ U M) p q↔Tog U p q∧M.getD p 0=M.getD q 0:=by
 unfold Tog
 rw [gq_ hp,gq_ hq]
 constructor
 ·intro h
  have h:=ne_.1 (show firstK (kk U M) p=firstK (kk U M) q by omega)
  exact⟨congrArg Prod.fst h,congrArg Prod.snd h⟩
 ·intro h
  rw [ne_.2 (Prod.ext h.1 h.2)]
def nbU (U:List Int):Nat:=((List.range U.length).filter fun (a:Nat)=>decide (U.getD a 0=(a:Int))).length
theorem xa_ (U:List Int):nbU U≤U.length:=Nat.le_trans (List.length_filter_le ..) (by simp)
theorem ht_ {U:List Int} (hf:Flat U) {p:Nat} (hp:p<U.length):∃ m:Nat,U.getD p 0=(m:Int)∧m≤p∧U.getD m 0=(m:Int):=by
 obtain⟨x,hx⟩:∃ x,U[p]?=some x:=⟨U[p],by simp⟩
 obtain⟨m,rfl,h1,h2⟩:=hf.at_ p x hx
 exact⟨m,by rw [List.getD_eq_getElem?_getD,hx];rfl,h1,by rw [List.getD_eq_getElem?_getD,h2];rfl⟩
theorem nk_ {U M:List Int} (hf:Flat U) {a:Nat} (ha:a<U.length) (h:U.getD a 0=(a:Int)):(dh_ U M).getD a 0=(a:Int):=by
 rw [gq_ ha]
 obtain⟨h1,h2,h3⟩:=bp_ (kk U M) a
 have h4:U.getD (firstK (kk U M) a) 0=U.getD a 0:=congrArg Prod.fst h2
 obtain⟨m,e1,e2,e3⟩:=ht_ hf (p:=firstK (kk U M) a) (by omega)
 rw [h4,h] at e1
 omega
theorem f2_ {l:List Nat} {f g:Nat→Bool} (h:∀ x∈l,f x=true→g x=true):(l.filter f).length≤(l.filter g).length∧((l.filter g).length≤(l.filter f).length→ ∀ x∈l,g x=true→f x=true):=by
 induction l with
 |nil=>simp
 |cons   a l ih=>
  obtain⟨i1,i2⟩:=ih fun x hx=>h x (List.mem_cons_of_mem _ hx)
  have ha:=h a (List.mem_cons_self ..)
  by_cases hf:f a=true
  ·have hg:=ha hf
   rw [List.filter_cons_of_pos hf,List.filter_cons_of_pos hg,List.length_cons,List.length_cons]
   refine⟨by omega,fun hl x hx hgx=>?_⟩
   rcases List.mem_cons.1 hx with rfl|hx
   ·exact hf
   ·exact i2 (by omega) x hx hgx
  ·by_cases hg:g a=true
   ·    rw [List.filter_cons_of_neg hf,List.filter_cons_of_pos hg,List.length_cons]
        exact⟨by omega,fun hl=>by omega⟩
   ·    rw [List.filter_cons_of_neg hf,List.filter_cons_of_neg hg]
        refine⟨i1,fun hl x hx hgx=>?_⟩
        rcases List.mem_cons.1 hx with rfl|hx
        ·exact absurd hgx hg
        ·exact i2 hl x hx hgx
theorem y7_ {U:List Int} (M:List Int) (hf:Flat U):nbU U≤nbU (dh_ U M):=by
 unfold nbU
 rw [eb_]
 exact (f2_ fun x hx h=>decide_eq_true (nk_ hf (List.mem_range.1 hx) (of_decide_eq_true h))).1
theorem s6_ {U M:List Int} (hf:Flat U) (h:nbU (dh_ U M)≤nbU U):dh_ U M=U:=by
 unfold nbU at h
 rw [eb_] at h
 have hs:=(f2_ (l:=List.range U.length) (f:=fun (a:Nat)=>decide (U.getD a 0=(a:Int))) (g:=fun (a:Nat)=>decide ((dh_ U M).getD a 0=(a:Int))) fun x hx h=>decide_eq_true (nk_ hf (List.mem_range.1 hx) (of_decide_eq_true h))).2 h
 refine List.ext_getElem? fun p=>?_
 by_cases hp:p<U.length
 ·rw [hu_ hp]
  obtain⟨h1,h2,h3⟩:=bp_ (kk U M) p
  have h4:U.getD (firstK (kk U M) p) 0=U.getD p 0:=congrArg Prod.fst h2
  have h5:=of_decide_eq_true (hs (firstK (kk U M) p) (List.mem_range.2 (by omega)) (decide_eq_true (by rw [gq_ (by omega),db_])))
  rw [h5] at h4
  rw [h4,List.getD_eq_getElem?_getD]
  rw [List.getElem?_eq_getElem hp];rfl
 ·rw [List.getElem?_eq_none (by rw [eb_];omega),List.getElem?_eq_none (by omega)]
def fy_ (n:Nat):List Int:=List.replicate n 0
theorem qk_ {n p:Nat}:(fy_ n).getD p 0=0:=by
 unfold fy_
 rw [List.getD_eq_getElem?_getD,List.getElem?_replicate]
 split <;> rfl
theorem ny_ (n:Nat):Flat (fy_ n):=⟨fun a x h=>by
 unfold fy_ at h ⊢
 rw [List.getElem?_replicate] at h
 split at h
 ·rename_i ha
  exact⟨0,(Option.some.inj h).symm,Nat.zero_le _,by rw [List.getElem?_replicate,if_pos (by omega)];rfl⟩
 ·cases h⟩
def finM (A:Au):List Int:=(List.range A.f.length).map fun (s:Nat)=>if A.f.getD s false then 1 else 0
theorem lp_ {A:Au} {p:Nat} (hp:p<A.f.length):(finM A).getD p 0=if finI A (p:Int) then 1 else 0:=by
 unfold finM
 rw [List.getD_eq_getElem?_getD,List.getElem?_map,List.getElem?_range hp]
 simp [finI]
theorem eo_ {A:Au} {U:List Int} {s:Sp} {p:Nat} (hp:p<A.f.length):(ca_ A U s).getD p 0=U.getD (an_ A s (p:Int)).toNat 0:=by
 unfold ca_
 rw [List.getD_eq_getElem?_getD,List.getElem?_map,List.getElem?_range hp];rfl
def ez_ (A:Au) (U:List Int) (l:List Sp):List Int:=l.foldl (fun U s=>dh_ U (ca_ A U s)) U
theorem o0_ (A:Au) (U:List Int) (l:List Sp) (s:Sp):ez_ A U (l++ [s])=dh_ (ez_ A U l) (ca_ A (ez_ A U l) s):=by simp [ez_]
theorem n5_ (A:Au) (U:List Int) (s:Sp) (l:List Sp):ez_ A U (s::l)=ez_ A (dh_ U (ca_ A U s)) l:=rfl
noncomputable def rndU (A:Au):Nat→List Int
 |0=>dh_ (fy_ A.f.length) (finM A)
 |k+1=>ez_ A (rndU A k) (ab_ A)
structure Way (A:Au) (U:List Int):Prop where
 len:U.length=A.f.length
 flat:Flat U
 eqv:∀ p q:Nat,p<A.f.length→q<A.f.length→Eqv A (p:Int) (q:Int)→Tog U p q
 fin:∀ p q:Nat,p<A.f.length→q<A.f.length→Tog U p q→finI A (p:Int)=finI A (q:Int)
theorem u4_ {A:Au}:Way A (rndU A 0):=by
 have hl:(fy_ A.f.length).length=A.f.length:=by simp [fy_]
 have ht:∀ p q,p<A.f.length→q<A.f.length→(Tog (rndU A 0) p q↔finI A (p:Int)=finI A (q:Int)):=fun p q hp hq=>by
  unfold rndU
  rw [h3_ (by omega) (by omega),lp_ hp,lp_ hq]
  unfold Tog
  rw [qk_,qk_]
  cases finI A (p:Int) <;> cases finI A (q:Int) <;> simp
 exact⟨by unfold rndU;rw [eb_,hl],by unfold rndU;exact mo_ _ _,fun p q hp hq h=>(ht p q hp hq).2 h.fin,fun p q hp hq h=>(ht p q hp hq).1 h⟩
theorem uq_ {A:Au} (hok:AuOk A) {U:List Int} (h:Way A U) {s:Sp} (hs:s∈ab_ A):Way A (dh_ U (ca_ A U s)):=by
 have hl:=h.len
 refine⟨by rw [eb_,hl],mo_ _ _,fun p q hp hq e=>(h3_ (by omega) (by omega)).2 ⟨h.eqv p q hp hq e,?_⟩,fun p q hp hq e=>h.fin p q hp hq ((h3_ (by omega) (by omega)).1 e).1⟩
 rw [eo_ hp,eo_ hq]
 have hs':=a2_.1 hs
 obtain⟨a0,a1⟩:=b4_ hok hs' (p:=(p:Int)) ⟨by omega,by omega⟩
 obtain⟨b0,b1⟩:=b4_ hok hs' (p:=(q:Int)) ⟨by omega,by omega⟩
 exact h.eqv _ _ (by omega) (by omega) (by rw [Int.toNat_of_nonneg a0,Int.toNat_of_nonneg b0];exact e.next hs)
theorem e0_ {A:Au} (hok:AuOk A):∀ (l:List Sp),(∀ s∈l,s∈ab_ A)→ ∀ U,Way A U→Way A (ez_ A U l)∧nbU U≤nbU (ez_ A U l)∧(nbU (ez_ A U l)≤nbU U→ez_ A U l=U∧ ∀ s∈l,dh_ U (ca_ A U s)=U)
 | [],_,U,h=>⟨h,Nat.le_refl _,fun _=>⟨rfl,fun s hs=>by cases hs⟩⟩
 |s::l,hl,U,h=>by
  rw [n5_]
  have h1:=uq_ hok h (hl s (List.mem_cons_self ..))
  have h2:=y7_ (ca_ A U s) h.flat
  obtain⟨i1,i2,i3⟩:=e0_ hok l (fun t ht=>hl t (List.mem_cons_of_mem _ ht)) _ h1
  refine⟨i1,by omega,fun hle=>?_⟩
  have h3:=s6_ (M:=ca_ A U s) h.flat (by omega)
  rw [h3] at i3 ⊢
  rw [h3] at hle
  obtain⟨j1,j2⟩:=i3 hle
  exact⟨j1,fun t ht=>by
   rcases List.mem_cons.1 ht with rfl|ht
   ·exact h3
   ·exact j2 t ht⟩
theorem f8_ {A:Au} (hok:AuOk A):∀ k,Way A (rndU A k)
 |0=>u4_
 |k+1=>(e0_ hok _ (fun _ h=>h) _ (f8_ hok k)).1
theorem wz_ {A:Au} (hok:AuOk A) (k:Nat):nbU (rndU A k)≤nbU (rndU A (k+1)):=(e0_ hok _ (fun _ h=>h) _ (f8_ hok k)).2.1
def clsU (A:Au):List Int:=(List.range A.f.length).map fun (p:Nat)=>((clsA A p:Nat):Int)
theorem zf_ {A:Au} (hok:AuOk A) {k:Nat} (h:nbU (rndU A (k+1))≤nbU (rndU A k)):rndU A k=clsU A∧rndU A (k+1)=clsU A:=by
 obtain⟨h1,h2⟩:=(e0_ hok _ (fun _ h=>h) _ (f8_ hok k)).2.2 h
 have hw:=f8_ hok k
 have hr:rndU A (k+1)=rndU A k:=h1
 rw [hr]
 generalize rndU A k=U at*
 have hl:=hw.len
 have hg:=fun p (hp:p<A.f.length)=>ht_ hw.flat (p:=p) (by omega)
 have key:=q2_ hok (fun p=>(U.getD p 0).toNat) (fun p hp=>by obtain⟨m,e1,e2,e3⟩:=hg p hp;rw [e1];simpa using e2) (fun p hp=>by
   obtain⟨m,e1,e2,e3⟩:=hg p hp
   show (U.getD (U.getD p 0).toNat 0).toNat=_
   rw [e1,Int.toNat_natCast,e3,Int.toNat_natCast])
  (fun p q hp hq e=>by have:=hw.eqv p q hp hq e;unfold Tog at this;rw [this])
  (fun p q hp hq e=>by
   obtain⟨m,e1,e2,e3⟩:=hg p hp
   obtain⟨m',e1',e2',e3'⟩:=hg q hq
   have e:(U.getD p 0).toNat=(U.getD q 0).toNat:=e
   exact hw.fin p q hp hq (by unfold Tog;omega))
  (fun p q hp hq e s hs=>by
   obtain⟨m,e1,e2,e3⟩:=hg p hp
   obtain⟨m',e1',e2',e3'⟩:=hg q hq
   have e:(U.getD p 0).toNat=(U.getD q 0).toNat:=e
   have ht:Tog U p q:=by unfold Tog;omega
   rw [← h2 s hs,h3_ (by omega) (by omega),eo_ hp,eo_ hq] at ht
   rw [ht.2])
 have:U=clsU A:=by
  refine List.ext_getElem? fun p=>?_
  by_cases hp:p<A.f.length
  ·have hk:=key p hp
   obtain⟨m,e1,e2,e3⟩:=hg p hp
   unfold clsU
   rw [List.getElem?_map,List.getElem?_range hp,List.getElem?_eq_getElem (by omega)]
   have:U[p]'(by omega)=U.getD p 0:=by rw [List.getD_eq_getElem?_getD,List.getElem?_eq_getElem (by omega)];rfl
   have hk:(U.getD p 0).toNat=clsA A p:=hk
   rw [this,e1]
   simp only [Option.map_some]
   congr 1
   omega
  ·rw [List.getElem?_eq_none (by omega),List.getElem?_eq_none (by simp [clsU];omega)]
 exact⟨this,this⟩
structure PartX (w:World) (p u:Nat) (c:Nat × Nat) (U:List Int):Prop where
 pos:0<U.length
 ex:∃ cur fz T,w.heap[p]?=some (.cells #[.slice (some ⟨u,c.1,none⟩) U.length c.2] T (0,0))∧w.heap[u]?=some (.cells cur 3 fz)∧(fz=(0,0)∨cur.size≤fz.1)∧U.length≤c.2∧c.2≤maxLen∧c.1+c.2*1≤cur.size∧(cur.toList.drop c.1).take (U.length*1)=U.map (Value.int .i64)
theorem PartX.plt {w:World} {p u:Nat} {c:Nat × Nat} {U:List Int} (h:PartX w p u c U):p<w.heap.size:=by
 obtain⟨_,_,_,_,hp,_⟩:=h
 exact (Array.getElem?_eq_some_iff.1 hp).1
theorem PartX.ult {w:World} {p u:Nat} {c:Nat × Nat} {U:List Int} (h:PartX w p u c U):u<w.heap.size:=by
 obtain⟨_,_,_,_,hp,hu,_⟩:=h
 exact (Array.getElem?_eq_some_iff.1 hu).1
theorem PartX.mut {w w':World} {p u:Nat} {c:Nat × Nat} {U:List Int} (h:PartX w p u c U) {S:Nat→Prop} (m:Mut S w w') (hp:¬ S p) (hu:¬ S u):PartX w' p u c U:=by
 obtain⟨h1,cur,fz,T,h3,h4,h5⟩:=h
 exact⟨h1,cur,fz,T,m.heap h3 hp,m.heap h4 hu,h5⟩
theorem mx_ {M:Nat→Prop} {w:World} {G:Cx}:∀ (U:List Int),RepL M w G (U.map fun x=>D.flat (.int .i64 x)) (U.map (Value.int .i64))
 | []=>by simp only [List.map_nil,RepL]
 |x::U=>by
  simp only [List.map_cons,RepL]
  exact⟨_,_,rfl,by simp only [Rep],mx_ U⟩
theorem la_ {M:Nat→Prop} {w:World} {G:Cx}:∀ (U:List Int) (vs:List Value),RepL M w G (U.map fun x=>D.flat (.int .i64 x)) vs→vs=U.map (Value.int .i64)
 | [],vs,h=>by simpa only [List.map_nil,RepL] using h
 |x::U,vs,h=>by
  simp only [List.map_cons,RepL] at h
  obtain⟨u,us,rfl,h1,h2⟩:=h
  simp only [Rep] at h1
  rw [h1,la_ U us h2];rfl
abbrev peX (a b:Nat) (U:List Int):Sg:=[(a,some (.box [.own b U.length])),(b,some (.row 3 1 U.length (U.map fun x=>D.flat (.int .i64 x))))]
theorem wp_ {a b id:Nat} {U:List Int} {e:Ent} (hab:a≠b) (h:lkE (peX a b U) id=some e):(id=a∧e= .box [.own b U.length])∨(id=b∧e= .row 3 1 U.length (U.map fun x=>D.flat (.int .i64 x))):=by
 simp only [peX,lkE] at h
 by_cases h1:a=id
 ·subst h1
  simp at h
  exact .inl ⟨rfl,h.symm⟩
 ·rw [show (a == id)=false by simpa using h1,cond_false] at h
  by_cases h2:b=id
  ·subst h2
   simp at h
   exact .inr ⟨rfl,h.symm⟩
  ·rw [show (b == id)=false by simpa using h2,cond_false] at h
   cases h
theorem j1_ (a b:Nat) (U:List Int):lkE (peX a b U) a=some (.box [.own b U.length]):=by simp [peX,lkE]
theorem fa_ {a b:Nat} (U:List Int) (hab:a≠b):lkE (peX a b U) b=some (.row 3 1 U.length (U.map fun x=>D.flat (.int .i64 x))):=by
 simp only [peX,lkE]
 rw [show (a == b)=false by simpa using hab];simp
theorem iw_ {g:Gh} {a b id k u:Nat} {c:Nat × Nat} {U:List Int} (hab:a≠b) (hr:g.row b= .slice (some ⟨u,c.1,none⟩) U.length c.2) (h:blkOf g (peX a b U) id=some k):(id=a∧k=g.blk a)∨(id=b∧k=u):=by
 unfold blkOf at h
 cases hl:lkE (peX a b U) id with
 |none=>rw [hl] at h;cases h
 |some e=>
  rw [hl] at h
  rcases wp_ hab hl with⟨rfl,rfl⟩| ⟨rfl,rfl⟩
  ·exact .inl ⟨rfl,(Option.some.inj h).symm⟩
  ·simp only [hr,Value.ownBlock] at h
   exact .inr ⟨rfl,(Option.some.inj h).symm⟩
theorem tc_ {M0:Nat→Prop} {w:World} {g:Gh} {a b u:Nat} {c:Nat × Nat} (hab:a≠b) {U:List Int} (hr:g.row b= .slice (some ⟨u,c.1,none⟩) U.length c.2) (hne:g.blk a≠u) (hM:¬ M0 (g.blk a)) (hMu:¬ M0 u) (h:PartX w (g.blk a) u c U):Hold M0 w g (peX a b U):=by
 have hp:=h.plt
 have hu:=h.ult
 obtain⟨h1,cur,fz,T,h3,h4,h5,h6,h7,h8,h9⟩:=h
 refine⟨fun id e he=>?_,fun id id' k q1 q2=>?_,fun id k q=>?_⟩
 ·rcases wp_ hab he with⟨rfl,rfl⟩| ⟨rfl,rfl⟩
  ·refine⟨[.slice (some ⟨u,c.1,none⟩) U.length c.2],_,h3,?_,ObjIs.mk rfl⟩
   simp only [RepL]
   refine⟨_,_,rfl,?_,rfl⟩
   simp only [Rep]
   exact⟨g,_,rfl,.inr ⟨3,1,_,_,fa_ U hab,Nat.le_refl _,fun _=>hr.symm⟩,_,_,rfl⟩
  ·exact⟨U.map (Value.int .i64),⟨by simp,.inr ⟨u,c.1,c.2,cur,fz,hr,h4,h5,h6,h7,h8,h9⟩⟩,mx_ U⟩
 ·rcases iw_ hab hr q1 with⟨rfl,r1⟩| ⟨rfl,r1⟩
  ·rcases iw_ hab hr q2 with⟨rfl,r2⟩| ⟨rfl,r2⟩
   ·rfl
   ·exact absurd (r1.symm.trans r2) hne
  ·rcases iw_ hab hr q2 with⟨rfl,r2⟩| ⟨rfl,r2⟩
   ·exact absurd (r2.symm.trans r1) hne
   ·rfl
 ·rcases iw_ hab hr q with⟨rfl,rfl⟩| ⟨rfl,rfl⟩
  ·exact⟨hp,hM⟩
  ·exact⟨hu,hMu⟩
theorem tt_ {M0:Nat→Prop} {w:World} {g:Gh} {a b:Nat} (hab:a≠b) {U:List Int} (hpos:0<U.length) (h:Hold M0 w g (peX a b U)):∃ (u:Nat) (c:Nat × Nat),g.row b= .slice (some ⟨u,c.1,none⟩) U.length c.2∧g.blk a≠u∧ ¬ M0 (g.blk a)∧ ¬ M0 u∧PartX w (g.blk a) u c U:=by
 obtain⟨vs,o,h1,h2,h3⟩:=h.ent a _ (j1_ a b U)
 obtain⟨us,h4,h5⟩:=h.ent b _ (fa_ U hab)
 have h5:=la_ U us h5
 subst h5
 obtain⟨-,⟨-,q⟩| ⟨u,off,c,cur,fz,e1,e2,e3,e4,e5,e6,e7⟩⟩:=h4
 ·omega
 have ba:blkOf g (peX a b U) a=some (g.blk a):=by unfold blkOf;rw [j1_]
 have bb:blkOf g (peX a b U) b=some u:=by unfold blkOf;rw [fa_ U hab];simp only [e1,Value.ownBlock]
 refine⟨u,(off,c),e1,fun e=>hab (h.sep a b _ ba (by rw [bb,e])),(h.new a _ ba).2,(h.new b _ bb).2,hpos,cur,fz,?_⟩
 simp only [RepL] at h2
 obtain⟨v,vs',rfl,h2,rfl⟩:=h2
 simp only [Rep] at h2
 obtain⟨g',σ',q1,q2, -⟩:=h2
 have q1:=Option.some.inj q1
 obtain⟨rfl,rfl⟩:=Prod.mk.inj q1
 have q3:=(hm_ (fa_ U hab) q2).2 rfl
 subst q3
 unfold ObjIs at h3
 obtain⟨T,rfl⟩:=h3
 exact⟨T,by rw [h1,e1],e2,e3,e4,e5,e6,e7⟩
theorem vl_ {w:World} {S:Nat→Prop}:GlOk w S:=by
 refine⟨fun p hp=>(by cases hp),fun b hb=>?_⟩
 obtain⟨cs,hc⟩:=hb
 cases hc
theorem rn_ {k:FuncId} {a b:Nat} (hab:a≠b) {U:List Int} {more:List D} {v:Value} (hf:DLend Try.prog k (.ref a 0::more) (peX a b U) (peX a b U) (.flat v)) {w:World} {p u:Nat} {c:Nat × Nat} (hne:p≠u) (h:PartX w p u c U) {vals:List Value} (hm:∀ M w G,RepL M w G more vals):
  Calls Try.prog k (Value.pointer (some ⟨p,0,none⟩)::vals).toArray w (fun e w'=>e= .returned v∧PartX w' p u c U∧Mut (fun b=>b=p∨b=u) w w'):=by
 have hr:(⟨fun _=>p,fun _=> .slice (some ⟨u,c.1,none⟩) U.length c.2⟩:Gh).row b= .slice (some ⟨u,c.1,none⟩) U.length c.2:=rfl
 refine (hf.go (fun _=>False) ⟨fun _=>p,fun _=> .slice (some ⟨u,c.1,none⟩) U.length c.2⟩ w _ (fun _ h=>h.elim) (tc_ hab hr hne id id h) ?_ vl_).mono ?_
 ·simp only [RepL]
  refine⟨_,_,rfl,?_,hm _ _ _⟩
  simp only [Rep]
  exact⟨_,_,_,rfl,j1_ a b U,rfl⟩
 ·rintro e w' ⟨v',g',rfl,h1,h2,h3,h4,h5⟩
  simp only [Rep] at h5
  subst h5
  obtain⟨u',c',e1,e2, -, -,e3⟩:=tt_ hab h.pos h3
  have hb:=(h2.box a _ (j1_ a b U)).2
  simp only at hb
  rcases h2.row b _ _ _ _ (fa_ U hab) with hd| ⟨e',n',l',cs',q1,q2,q3⟩
  ·simp only at hd;rw [fa_ U hab] at hd;cases hd
  ·simp only at q1;rw [fa_ U hab] at q1
   simp only [Option.some.injEq,Ent.row.injEq] at q1
   obtain⟨-, -,q1, -⟩:=q1
   have q3:=q3 q1.symm
   simp only at q3
   rw [e1] at q3
   simp only [Value.slice.injEq,Option.some.injEq,Addr.mk.injEq,and_true,true_and] at q3
   obtain⟨⟨rfl,r1⟩,r2⟩:=q3
   have hcc:c'=c:=Prod.ext r1 r2
   subst hcc
   rw [hb] at e3
   refine⟨rfl,e3,h1.mono fun i _ ⟨id,hid⟩=>?_⟩
   rcases iw_ hab hr hid with⟨-,r⟩| ⟨-,r⟩
   ·exact .inl r
   ·exact .inr r
theorem tf_ {k:FuncId} {a b:Nat} (hab:a≠b) {U:List Int} (hpos:0<U.length) {v:Value} (hf:∀ (w:World) (p u:Nat) (c:Nat × Nat),p≠u→PartX w p u c U→Calls Try.prog k #[.pointer (some ⟨p,0,none⟩)] w (fun e w'=>e= .returned v∧PartX w' p u c U∧Mut (fun b=>b=p∨b=u) w w')):DLend Try.prog k [.ref a 0] (peX a b U) (peX a b U) (.flat v):=by
 refine⟨fun M0 g w vals hM hh hv hg=>?_⟩
 obtain⟨u,c,hr,hne,hMp,hMu,hP⟩:=tt_ hab hpos hh
 simp only [RepL] at hv
 obtain⟨x,vs,rfl,hx,rfl⟩:=hv
 simp only [Rep] at hx
 obtain⟨g',σ',cs,q1,q2,rfl⟩:=hx
 have q1:=Option.some.inj q1
 obtain⟨rfl,rfl⟩:=Prod.mk.inj q1
 have ba:blkOf g (peX a b U) a=some (g.blk a):=by unfold blkOf;rw [j1_]
 have bb:blkOf g (peX a b U) b=some u:=by unfold blkOf;rw [fa_ U hab];simp only [hr,Value.ownBlock]
 refine (hf w (g.blk a) u c hne hP).mono ?_
 rintro e w' ⟨rfl,h1,h2⟩
 exact⟨v,g,rfl,h2.mono fun i _ hi=>by rcases hi with rfl|rfl <;> exact⟨_,by assumption⟩,Grow.refl _,tc_ hab hr hne hMp hMu h1,fun id b' hb _=>⟨id,hb⟩,by simp only [Rep]⟩
end Go.Proofs.Ytichhfbkhnimmaa
