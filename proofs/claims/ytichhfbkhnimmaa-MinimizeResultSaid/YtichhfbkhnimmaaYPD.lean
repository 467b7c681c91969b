/- Contracts over data: restricting automata. No condition. -/
import Derived.Test.YtichhfbkhnimmaaYD9
set_option linter.unusedSimpArgs false
set_option linter.unusedVariables false
set_option maxHeartbeats 4000000
set_option maxRecDepth 8000
namespace Go.Proofs.Ytichhfbkhnimmaa
open Go Go.RowKit Go.PP Go.Dm Go.Rt Go.Mn
theorem hi_ (n:Nat) (l:List Int):(ixL n l).length=n:=by simp [ixL]
theorem fn_ {l:List Int} {x:Int}:∀ {j:Nat},x∈l.take j→(l.take j).idxOf x=l.idxOf x:=by
 induction l with
 |nil=>intro j h;simp at h
 |cons   a l ih=>
  intro j h
  cases j with
  |zero=>simp at h
  |succ  j=>
   rw [List.take_succ_cons] at h ⊢
   by_cases e:a=x
   ·subst e;simp
   ·    rw [List.idxOf_cons,List.idxOf_cons,show (a == x)=false by simpa using e,cond_false,cond_false,ih]
        rcases List.mem_cons.1 h with h|h
        ·exact absurd h.symm e
        ·exact h
theorem yj_ {n:Nat} {l:List Int} {j m:Nat} (hnd:l.Nodup) (hj:l[j]?=some (m:Int)) (hm:m<n):spliceD ((ixL n (l.take j)).map fun x=>D.flat (.int .i64 x)) m [.flat (.int .i64 (j:Int))]=(ixL n (l.take (j+1))).map fun x=>D.flat (.int .i64 x):=by
 rw [bk_ (by simp [hi_,hm])]
 refine List.ext_getElem? fun i=>?_
 rw [List.getElem?_set,List.getElem?_map,List.getElem?_map]
 have hlen:=hi_ n (l.take j)
 have hjl:=(List.getElem?_eq_some_iff.1 hj).1
 have htk:l.take (j+1)=l.take j++ [(m:Int)]:=by rw [List.take_add_one,hj];rfl
 have hno:(m:Int) ∉ l.take j:=fun hm'=>by
  have h1:=fn_ hm'
  rw [gh_ l j _ hnd hj] at h1
  have h2:=List.idxOf_lt_length_of_mem hm'
  rw [h1] at h2;simp at h2;omega
 by_cases hi:m=i
 ·subst hi
  rw [if_pos rfl,if_pos (by simp [hlen,hm])]
  have h3:(m:Int)∈l.take (j+1):=by rw [htk];simp
  have h4:=fn_ h3
  rw [gh_ l j _ hnd hj] at h4
  simp [ixL,hm,h3,h4]
 ·rw [if_neg hi]
  by_cases h5:i<n
  ·have  h6:((i:Int)∈l.take (j+1))↔((i:Int)∈l.take j):=by
        rw [htk];simp;intro h;omega
   by_cases h7:(i:Int)∈l.take j
   ·simp [ixL,h5,h7,h6.2 h7,fn_ h7,fn_ (h6.2 h7)]
   ·    have:¬ (i:Int)∈l.take (j+1):=fun h=>h7 (h6.1 h)
        simp [ixL,h5,h7,this]
  ·rw [List.getElem?_eq_none (by rw [hi_];omega),List.getElem?_eq_none (by rw [hi_];omega)]
theorem yb_ (A:Au) (hn:A.f.length≤512) (old:List Int) (hr:∀ s∈old,0≤s∧s<(A.f.length:Int)) (hl:old.length≤512) (s:Nat) (hs:s<old.length):DFun Try.prog 105 [.flat (.int .i64 ((s:Nat):Int)),.ptr (auC A) 0,.ptr [.sl false 1 old.length (old.map fun x=>D.flat (.int .i64 x))] 0] (.flat (.bool (fz_ A old s))):=by
 obtain⟨q,hq⟩:∃ q,old[s]?=some q:=⟨old[s],by simp⟩
 have hqr:=hr q (List.mem_of_getElem? hq)
 obtain⟨m,rfl⟩:=Int.eq_ofNat_of_zero_le hqr.1
 have hm:m<A.f.length:=by omega
 obtain⟨b,hb⟩:∃ b,A.f[m]?=some b:=⟨A.f[m],by simp⟩
 have hp:=as_ hq
 have hp2:=dy_ hb
 have hk:fz_ A old s=b:=by simp [fz_,List.getD,hq,hb]
 rw [hk]
 rw [d0_]
 generalize (A.r.map fun x=>D.flat (.int .i64 x))=LR at*
 generalize (A.f.map fun x=>D.flat (.bool x))=LB at*
 generalize ag_ A.to=LT at*
 generalize (old.map fun x=>D.flat (.int .i64 x))=LO at*
 refine DFun.enterA Try.func105 Try.ntmps105 ?_
 refine DW.walk ?_
 exact⟨.inr rfl,ResOk.one [] rfl rfl trivial (Vw.pers rfl)⟩
theorem yu_ (A:Au) (hok:AuOk A) (old:List Int) (hsh:ShutL A old) (i k:Nat) (ds:List Int) (hk:A.r[i]?=some (k:Int)) (hdl:ds.length=k) (hdr:∀ d∈ds,0≤d∧d<(old.length:Int)):
  DFun Try.prog 104 [.flat (.int .i64 ((i:Nat):Int)),.sl false 1 ds.length (ds.map fun x=>D.flat (.int .i64 x)),.ptr [.sl false 1 old.length (old.map fun x=>D.flat (.int .i64 x))] 0,.ptr [.sl false 1 (ixL A.f.length old).length ((ixL A.f.length old).map fun x=>D.flat (.int .i64 x))] 0,.ptr (auC A) 0] (.flat (.int .i64 (cu_ A old i ds))):=by
 have hfit:=hsh.fits hk (by omega) hdr
 have hat:=afj A hok i _ hfit
 have hmem:=hsh.shut i k ds hk (by omega) hdr
 have hrg:=hsh.rng _ hmem
 have hx:=abh (n:=A.f.length) hmem hrg.1 hrg.2
 have hkt:cu_ A old i ds=hasI old (atI A i (ds.map fun d=>old.getD d.toNat 0)):=rfl
 rw [hkt,← hx]
 have hk2:=hok.alpha.rng _ (List.mem_of_getElem? hk)
 have hn:=hok.hi
 have hol:=hsh.hi
 generalize hf:(ds.map (fun d=>old.getD d.toNat 0))=fr at*
 have hfl:fr.length=ds.length:=by rw [← hf];simp
 generalize hy:atI A i fr=y at*
 obtain⟨m,rfl⟩:=Int.eq_ofNat_of_zero_le hrg.1
 have hm:m<A.f.length:=by omega
 have hix:(ixL A.f.length old).length=A.f.length:=by simp [ixL]
 generalize ixL A.f.length old=ix at*
 obtain⟨z,hz⟩:∃ z,ix[m]?=some z:=⟨ix[m],by simp⟩
 have hp:=as_ hz
 rw [show ix.getD (m:Int).toNat 0=z by simp [List.getD,hz]]
 have hpo:∀ (i:Nat) (x:Int),old[i]?=some x→partD false 1 (i*1) (old.map fun x=>D.flat (.int .i64 x))=some (.flat (.int .i64 x)):=fun i x h=>as_ h
 have hpd:∀ (i:Nat) (x:Int),ds[i]?=some x→partD false 1 (i*1) (ds.map fun x=>D.flat (.int .i64 x))=some (.flat (.int .i64 x)):=fun i x h=>as_ h
 have hpf:=fun j=>ad_ (fr.take j)
 have hpfr:=ad_ fr
 rw [d0_]
 rw [au_] at hat
 generalize (A.r.map fun x=>D.flat (.int .i64 x))=LR at*
 generalize (A.f.map fun x=>D.flat (.bool x))=LB at*
 generalize ag_ A.to=LT at*
 generalize (old.map fun x=>D.flat (.int .i64 x))=LO at*
 generalize (ix.map fun x=>D.flat (.int .i64 x))=LI at*
 generalize (ds.map fun x=>D.flat (.int .i64 x))=LD at*
 clear hx hkt hmem hrg hfit hsh hok hy
 refine DFun.enterA Try.func104 Try.ntmps104 ?_
 refine DW.walk ?_
 refine DW.adopt 8 108 3 1 rfl rfl ?_
 refine DW.loopA (fun j:Nat=>⟨[(0,.flat (.int .i64 ((i:Nat):Int))),(2,.ptr [.sl false 1 old.length LO] 0),(3,.ptr [.sl false 1 ix.length LI] 0),(4,.ptr [.sl false 1 A.r.length LR,.sl false 1 A.f.length LB,.sl false 1 A.to.length LT] 0),(8,.own 108 j),(11,.sl false 1 ds.length LD),(12,.flat (.int .i64 ((ds.length:Nat):Int))),(13,.flat (.int .i64 ((j:Nat):Int)))],[(108,some (.row 3 1 j ((fr.take j).map fun x=>D.flat (.int .i64 x))))]⟩) (fun j=>j≤ds.length) (fun j=>ds.length - j) 0 ?_ (by omega)
 intro j hj
 rcases Nat.lt_or_ge j ds.length with hlt|hge
 ·obtain⟨d,hd⟩:∃ d,ds[j]?=some d:=⟨ds[j],by simp⟩
  have hdr2:=hdr d (List.mem_of_getElem? hd)
  obtain⟨e,rfl⟩:=Int.eq_ofNat_of_zero_le hdr2.1
  have he:e<old.length:=by omega
  obtain⟨q,hq⟩:∃ q,old[e]?=some q:=⟨old[e],by simp⟩
  have hfj:fr[j]?=some q:=by rw [← hf,List.getElem?_map,hd];simp [List.getD,hq]
  have hp1:=hpd j _ hd
  have hp2:=hpo e _ hq
  have hrow:(fr.take j).map (fun x=>D.flat (.int .i64 x))++ [.flat (.int .i64 q)]=(fr.take (j+1)).map (fun x=>D.flat (.int .i64 x)):=by rw [List.take_add_one,hfj];simp
  have q1:=hpf j
  have q2:=hpf (j+1)
  generalize hF1:(fr.take (j+1)).map (fun x=>D.flat (.int .i64 x))=F1 at*
  generalize hF0:(fr.take j).map (fun x=>D.flat (.int .i64 x))=F0 at*
  clear hpd hpo hat hdr hpf hpfr hf
  refine DW.walk ?_
  rw [hrow]
  exact⟨j+1,by omega,by omega,by rw [hF1];exact Sub.auto⟩
 ·have hje:j=ds.length:=by omega
  subst hje
  rw [List.take_of_length_le (by omega)]
  generalize (fr.map fun x=>D.flat (.int .i64 x))=LF at*
  clear hpd hpo hdr hpf hf
  rw [← hfl]
  refine DW.sub (s':=⟨[(0,.flat (.int .i64 ((i:Nat):Int))),(2,.ptr [.sl false 1 old.length LO] 0),(3,.ptr [.sl false 1 ix.length LI] 0),(4,.ptr [.sl false 1 A.r.length LR,.sl false 1 A.f.length LB,.sl false 1 A.to.length LT] 0),(8,.sl false 1 fr.length LF),(12,.flat (.int .i64 ((fr.length:Nat):Int))),(13,.flat (.int .i64 ((fr.length:Nat):Int)))],[]⟩) Sub.auto ?_
  refine DW.walk ?_
  exact⟨.inr rfl,ResOk.one [] rfl rfl trivial (Vw.pers rfl)⟩
theorem abx (A:Au) (hok:AuOk A) (old:List Int) (hsh:ShutL A old):DFun Try.prog 69 [auD A,.sl false 1 old.length (old.map fun x=>D.flat (.int .i64 x))] (auD (aw_ A old)):=by
 have hn:=hok.hi
 have hol:=hsh.hi
 have hpos:=hsh.pos
 have hal:=hok.alpha
 have hz:List.replicate A.f.length (D.flat (.int .i64 0))=(ixL A.f.length (old.take 0)).map fun x=>D.flat (.int .i64 x):=by
  refine List.ext_getElem? fun i=>?_
  rw [List.getElem?_map]
  by_cases hi:i<A.f.length
  ·simp [ixL,hi]
  ·rw [List.getElem?_eq_none (by simp;omega),List.getElem?_eq_none (by rw [hi_];omega)];rfl
 have hm:=ab1 A.r old.length (cu_ A old) (fz_ A old) 104 105 [] [.ptr [.sl false 1 old.length (old.map fun x=>D.flat (.int .i64 x))] 0,.ptr [.sl false 1 (ixL A.f.length old).length ((ixL A.f.length old).map fun x=>D.flat (.int .i64 x))] 0,.ptr (auC A) 0] [] [.ptr (auC A) 0,.ptr [.sl false 1 old.length (old.map fun x=>D.flat (.int .i64 x))] 0] hal.hi hal.rng hol hpos EntC.h EntC.h
  (by simp [persL,pers,ad_,ai_,al_,d0_]) (by simp [persL,pers,ad_,ai_,al_,d0_]) (fun i k l=>by have:=ad_ l;simp [persL,pers,this,ad_,ai_,al_,d0_]) (fun s=>by simp [persL,pers,ad_,ai_,al_,d0_])
  (fun i k p hk hp=>by
   have h:=yu_ A hok old hsh i k _ hk (b8_ _ _ _) (c5_ hpos k p)
   rw [b8_] at h
   exact h) (fun s hs=>yb_ A hn old hsh.rng hol s hs)
 have hpo:∀ (i:Nat) (x:Int),old[i]?=some x→partD false 1 (i*1) (old.map fun x=>D.flat (.int .i64 x))=some (.flat (.int .i64 x)):=fun i x h=>as_ h
 have hlen:∀ j,((ixL A.f.length (old.take j)).map fun x=>D.flat (.int .i64 x)).length=A.f.length:=fun j=>by simp [hi_]
 have hpx:=fun j=>ad_ (ixL A.f.length (old.take j))
 have hpx1:=ad_ (ixL A.f.length old)
 have hset:∀ (j m:Nat),old[j]?=some (m:Int)→m<A.f.length→spliceD ((ixL A.f.length (old.take j)).map fun x=>D.flat (.int .i64 x)) m [.flat (.int .i64 ((j:Nat):Int))]=(ixL A.f.length (old.take (j+1))).map fun x=>D.flat (.int .i64 x):=fun j m h1 h2=>yj_ hsh.nd h1 h2
 have hrg:=hsh.rng
 have hpr:=ad_ A.r
 have hpb:=ai_ A.f
 have hpt:=al_ A.to
 have hpold:=ad_ old
 have hixl:(ixL A.f.length old).length=A.f.length:=by simp [ixL]
 rw [show aw_ A old=cj_ A.r old.length (cu_ A old) (fz_ A old) from rfl]
 generalize cj_ A.r old.length (cu_ A old) (fz_ A old)=Mk at*
 have hq1:=ad_ Mk.r
 have hq2:=ai_ Mk.f
 have hq3:=al_ Mk.to
 rw [au_ A,au_ Mk]
 rw [d0_,au_ Mk] at hm
 generalize (Mk.r.map fun x=>D.flat (.int .i64 x))=MR at*
 generalize (Mk.f.map fun x=>D.flat (.bool x))=MB at*
 generalize ag_ Mk.to=MT at*
 generalize (A.r.map fun x=>D.flat (.int .i64 x))=LR at*
 generalize (A.f.map fun x=>D.flat (.bool x))=LB at*
 generalize ag_ A.to=LT at*
 generalize (old.map fun x=>D.flat (.int .i64 x))=LO at*
 clear hsh hok hal
 refine DFun.enterA Try.func69 Try.ntmps69 ?_
 refine DW.walk ?_
 refine DW.loopA (fun j:Nat=>⟨[(2,.ptr [.sl false 1 A.r.length LR,.sl false 1 A.f.length LB,.sl false 1 A.to.length LT] 0),(3,.ptr [.sl false 1 old.length LO] 0),(4,.ref 4 0),(5,.ref 5 0),(12,.sl false 1 old.length LO),(13,.flat (.int .i64 ((old.length:Nat):Int))),(14,.flat (.int .i64 ((j:Nat):Int)))],[(4,some (.box [.flat (.slice none 0 0),.flat (.slice none 0 0),.flat (.slice none 0 0)])),(5,some (.box [.own 11 A.f.length])),(11,some (.row 3 1 A.f.length ((ixL A.f.length (old.take j)).map fun x=>D.flat (.int .i64 x))))]⟩) (fun j=>j≤old.length) (fun j=>old.length - j) 0 ?_ (Nat.zero_le _) (by have hp0:=hpx 0;rw [← hz] at hp0 ⊢;generalize (List.replicate A.f.length (D.flat (.int .i64 0)))=RZ at *;exact Sub.auto)
 intro j hj
 rcases Nat.lt_or_ge j old.length with hlt|hge
 ·obtain⟨q,hq⟩:∃ q,old[j]?=some q:=⟨old[j],by simp⟩
  have hqr:=hrg q (List.mem_of_getElem? hq)
  obtain⟨m,rfl⟩:=Int.eq_ofNat_of_zero_le hqr.1
  have hm2:m<A.f.length:=by omega
  have hp:=hpo j _ hq
  have hs:=hset j m hq hm2
  unfold spliceD at hs
  have q0:=hlen j
  have q1:=hpx j
  have q2:=hpx (j+1)
  generalize hX1:((ixL A.f.length (old.take (j+1))).map fun x=>D.flat (.int .i64 x))=X1 at*
  generalize hX0:((ixL A.f.length (old.take j)).map fun x=>D.flat (.int .i64 x))=X0 at*
  clear hm hpo hset hlen hpx hrg hz
  have hs1:List.take (m*1) X0++ [.flat (.int .i64 ((j:Nat):Int))]++List.drop (m*1+1) X0=X1:=by rw [Nat.mul_one];exact hs
  refine DW.walk ?_
  rw [hs1]
  exact⟨j+1,by omega,by omega,by rw [hX1];exact Sub.auto⟩
 ·have hje:j=old.length:=by omega
  subst hje
  rw [List.take_length]
  generalize ((ixL A.f.length old).map fun x=>D.flat (.int .i64 x))=X1 at*
  clear hpo hset hlen hpx hrg hz
  refine DW.walkTo 7 ?_
  refine DW.sub (s':=⟨[(2,.ptr [.sl false 1 A.r.length LR,.sl false 1 A.f.length LB,.sl false 1 A.to.length LT] 0),(3,.ptr [.sl false 1 old.length LO] 0),(4,.ref 4 0),(5,.ref 5 0)],[(4,some (.box [.flat (.slice none 0 0),.flat (.slice none 0 0),.flat (.slice none 0 0)])),(5,some (.box [.sl false 1 A.f.length X1]))]⟩) Sub.auto ?_
  refine DW.sub (s':=⟨[(2,.ptr [.sl false 1 A.r.length LR,.sl false 1 A.f.length LB,.sl false 1 A.to.length LT] 0),(3,.ptr [.sl false 1 old.length LO] 0),(4,.ref 4 0),(5,.ptr [.sl false 1 A.f.length X1] 0)],[(4,some (.box [.flat (.slice none 0 0),.flat (.slice none 0 0),.flat (.slice none 0 0)]))]⟩) Sub.auto ?_
  rw [hixl] at hm
  refine DW.walk ?_
  exact⟨.inr rfl,ResOk.cellA [] rfl rfl rfl TyI.ag TyI.sz trivial (VwL.pers (by simp [persL,pers,hq1,hq2,hq3])) (Le.refl _)⟩
theorem aat (A:Au) (hA:Few A):DFun Try.prog 34 [auD A] (.tup [auD (wi_ A).1,.flat (.int .i64 (((wi_ A).2:Nat):Int))]):=by
 have hc:=g7_ A hA
 by_cases hk:chk A=0
 ·rw [hk] at hc
  rw [pp_ hk]
  have hok:=a4_ hk
  have hf:=ro_ A hok
  have hs:=abx A hok (ac_ A) (eu_ hok (go_ hk))
  show DFun Try.prog 34 _ (.tup [auD (aw_ A (ac_ A)),.flat (.int .i64 ((0:Nat):Int))])
  have hfp:=ad_ (ac_ A)
  generalize aw_ A (ac_ A)=Mk at*
  generalize ac_ A=fo at*
  have q1:=ad_ A.r
  have q2:=ai_ A.f
  have q3:=al_ A.to
  have m1:=ad_ Mk.r
  have m2:=ai_ Mk.f
  have m3:=al_ Mk.to
  rw [au_ Mk] at*
  rw [au_ A] at*
  generalize (A.r.map fun x=>D.flat (.int .i64 x))=LR at*
  generalize (A.f.map fun x=>D.flat (.bool x))=LB at*
  generalize ag_ A.to=LT at*
  generalize (Mk.r.map fun x=>D.flat (.int .i64 x))=MR at*
  generalize (Mk.f.map fun x=>D.flat (.bool x))=MB at*
  generalize ag_ Mk.to=MT at*
  generalize (fo.map fun x=>D.flat (.int .i64 x))=LF at*
  refine DFun.enterA Try.func34 Try.ntmps34 ?_
  refine DW.walk ?_
  exact⟨.inr rfl,ResOk.cellTmpA [] rfl rfl rfl TyI.ag TyI.sz rfl trivial (VwL.pers (by simp [persL,pers,m1,m2,m3])) (Le.refl _) (Vw.pers rfl)⟩
 ·have hne:((chk A:Nat):Int)≠0:=by omega
  rw [s9_ hk]
  show DFun Try.prog 34 _ (.tup [.agg [.sl false 1 0 [],.sl false 1 0 [],.sl false 1 0 []],.flat (.int .i64 ((chk A:Nat):Int))])
  generalize chk A=ck at*
  have q1:=ad_ A.r
  have q2:=ai_ A.f
  have q3:=al_ A.to
  rw [au_] at*
  generalize (A.r.map fun x=>D.flat (.int .i64 x))=LR at*
  generalize (A.f.map fun x=>D.flat (.bool x))=LB at*
  generalize ag_ A.to=LT at*
  refine DFun.enterA Try.func34 Try.ntmps34 ?_
  refine DW.walk ?_
  exact⟨.inr rfl,ResOk.cellTmpA [] rfl rfl rfl TyI.ag TyI.sz rfl trivial (.cons (Vw.p rfl Le.empty) (.cons (Vw.p rfl Le.empty) (.cons (Vw.p rfl Le.empty) .nil))) (Le.refl _) (Vw.pers rfl)⟩
theorem tn_ {A:Au} (hok:AuOk A) {i k p:Nat} (hk:A.r[i]?=some ((k:Nat):Int)):Fits A i (digs A.f.length k p):=
 ⟨by omega,by have:=(List.getElem?_eq_some_iff.1 hk).1;omega,by rw [b8_];simp [List.getD,hk],fun x hx=>c5_ hok.lo k p x hx⟩
theorem yn_ {w0 w:World} {M0:Nat→Prop} {B0:Bd} {N:Nat} {g:Gh} {f:Fr} {σ σ':Sg} {a:Act} (h:∀ id,lkE σ id=lkE σ' id) (hs:StG w0 M0 B0 N g ⟨f,σ⟩ a w):StG w0 M0 B0 N g ⟨f,σ'⟩ a w:=by
 have hb:∀ id,blkOf g σ' id=blkOf g σ id:=fun id=>by unfold blkOf;rw [h]
 have hM:Mx M0 g σ'=Mx M0 g σ:=by funext b;unfold Mx;simp only [hb]
 have hG:GrowO (some (g,σ)) (some (g,σ')):=⟨fun id cs q=>⟨⟨cs,by rw [← h];exact q⟩,rfl⟩,fun id e n len cs q=> .inr ⟨e,n,len,cs,by rw [← h];exact q,Nat.le_refl _,fun _=>rfl⟩,fun id q=>by rw [← h];exact q⟩
 have hr:∀ d v,Rep (Mx M0 g σ) w (some (g,σ)) d v→Rep (Mx M0 g σ) w (some (g,σ')) d v:=fun d v q=>Rep.step hG (Mut.refl (fun _=>False) w) (fun _ _ e=>e.elim) (fun _ _ q=>q) d v q
 have hrl:∀ d v,RepL (Mx M0 g σ) w (some (g,σ)) d v→RepL (Mx M0 g σ) w (some (g,σ')) d v:=fun d v q=>RepL.step hG (Mut.refl (fun _=>False) w) (fun _ _ e=>e.elim) (fun _ _ q=>q) d v q
 refine⟨hs.chg,hs.m0,?_,hs.sz,fun t=>by show Rep (Mx M0 g σ') w _ _ _;rw [hM];exact hr _ _ (hs.tm t),fun id e he=>?_,fun id id' b q1 q2=>hs.sep id id' b (by rw [← hb];exact q1) (by rw [← hb];exact q2),fun id b q=>hs.new id b (by rw [← hb];exact q),fun id=>⟨fun cs q=>(hs.anc id).1 cs (by rw [h];exact q),fun e n len cs q=>(hs.anc id).2 e n len cs (by rw [h];exact q)⟩,hs.glo⟩
 ·obtain⟨Ds,h1,h2,h3⟩:=hs.df
  exact⟨Ds,h1,h2,fun D hD=>⟨(h3 D hD).1,fun id q=>(h3 D hD).2 id (by rw [← hb];exact q)⟩⟩
 ·have h0:=hs.ent id e (by show lkE σ id=_;rw [h];exact he)
  show EntOk (Mx M0 g σ') w g σ' id e
  rw [hM]
  cases e with
  |box cs=>obtain⟨vs,o,q1,q2,q3⟩:=h0;exact⟨vs,o,q1,hrl _ _ q2,q3⟩
  |row e n len cs=>obtain⟨vs,q1,q2⟩:=h0;exact⟨vs,q1,hrl _ _ q2⟩
  |dead=>trivial
theorem ws_ {σ:Sg}:∀ {pe:List (Nat × Option Ent)},Ens σ pe→ ∀ id e,fnd pe id=some e→lkE σ id=e
 | [],_,id,e,h=>by simp [fnd] at h
 |p::r,hE,id,e,h=>by
  simp only [fnd] at h
  by_cases q:p.1=id
  ·subst q
   simp at h
   rw [← h];exact hE.1
  ·rw [show (p.1 == id)=false by simpa using q] at h
   exact ws_ hE.2 id e h
theorem ti_ {P:Program} {N:Nat} {o:Oper} {pf:List (Operand × D)} {pe:List (Nat × Option Ent)} {d:D} (h:Tri P N o pf pe d pe):Tri P N o pf pe d []:=by
 refine⟨fun w0 M0 B0 s a w next Q h1 h2 hd hst hk=>h.go w0 M0 B0 s a w next Q h1 h2 hd hst fun a' w' ⟨g,hg⟩=>hk a' w' ⟨g,yn_ (fun id=>?_) hg⟩⟩
 rw [ey_]
 cases hf:fnd pe id with
 |none=>rfl
 |some e=>exact (ws_ h2 id e hf).symm
structure Flat (U:List Int):Prop where
 at_:∀ (a:Nat) (x:Int),U[a]?=some x→ ∃ m:Nat,x=(m:Int)∧m≤a∧U[m]?=some (m:Int)
theorem sl_ (U:List Int):DLend Try.prog 17 [.ref 225626701274425600001 0] [(225626701274425600001,some (.box [.own 225626701274425600002 U.length])),(225626701274425600002,some (.row 3 1 U.length (U.map fun x=>D.flat (.int .i64 x))))] [(225626701274425600001,some (.box [.own 225626701274425600002 U.length])),(225626701274425600002,some (.row 3 1 U.length (U.map fun x=>D.flat (.int .i64 x))))] (.flat (.int .i64 ((U.length:Nat):Int))):=by
 have hp:=ad_ U
 have ho:=b0_ U
 generalize (U.map fun x=>D.flat (.int .i64 x))=LU at*
 refine DLend.enterA Try.func17 Try.ntmps17 ?_
 refine DW.walk ?_
 exact⟨.inr rfl,ResL.oneA⟩
theorem l7_ (U:List Int) (a:Int):DLend Try.prog 52 [.ref 225626701274425600001 0,.flat (.int .i64 a)] [(225626701274425600001,some (.box [.own 225626701274425600002 U.length])),(225626701274425600002,some (.row 3 1 U.length (U.map fun x=>D.flat (.int .i64 x))))] [(225626701274425600001,some (.box [.own 225626701274425600002 U.length])),(225626701274425600002,some (.row 3 1 U.length (U.map fun x=>D.flat (.int .i64 x))))] (.flat (.bool (decide (0≤a∧a<(U.length:Int))))):=by
 have hp:=ad_ U
 have ho:=b0_ U
 generalize (U.map fun x=>D.flat (.int .i64 x))=LU at*
 by_cases h0:0≤a
 ·rw [show decide (0≤a∧a<(U.length:Int))=decide (a<(U.length:Int)) by simp [h0]]
  refine DLend.enterA Try.func52 Try.ntmps52 ?_
  refine DW.walk ?_
  exact⟨.inr rfl,ResL.oneA⟩
 ·rw [show decide (0≤a∧a<(U.length:Int))=false by simp [h0]]
  refine DLend.enterA Try.func52 Try.ntmps52 ?_
  refine DW.walk ?_
  exact⟨.inr rfl,ResL.oneA⟩
theorem po_ (U:List Int) (hU:U.length≤1000000) (a:Nat) (h:U[a]?=some (a:Int)):DLend Try.prog 97 [.flat (.int .i64 ((a:Nat):Int)),.ref 6871947673600001 0,.ref 6871947673600002 0] [(225626701274425600001,some (.box [.own 225626701274425600002 U.length])),(225626701274425600002,some (.row 3 1 U.length (U.map fun x=>D.flat (.int .i64 x)))),(6871947673600001,some (.box [.ref 225626701274425600001 0])),(6871947673600002,some (.box [.clo (.func 97) [] [.ref 6871947673600001 0,.ref 6871947673600002 0]]))] [(225626701274425600001,some (.box [.own 225626701274425600002 U.length])),(225626701274425600002,some (.row 3 1 U.length (U.map fun x=>D.flat (.int .i64 x)))),(6871947673600001,some (.box [.ref 225626701274425600001 0])),(6871947673600002,some (.box [.clo (.func 97) [] [.ref 6871947673600001 0,.ref 6871947673600002 0]]))] (.flat (.int .i64 ((a:Nat):Int))):=by
 have hp:=ad_ U
 have ho:=b0_ U
 have hq:=as_ h
 have ha:=(List.getElem?_eq_some_iff.1 h).1
 have hl:(U.map fun x=>D.flat (.int .i64 x)).length=U.length:=by simp
 generalize (U.map fun x=>D.flat (.int .i64 x))=LU at*
 refine DLend.enterA Try.func97 Try.ntmps97 ?_
 refine DW.walk ?_
 exact⟨.inr rfl,ResL.oneA⟩
theorem u2_ (U:List Int) (hf:Flat U) (hU:U.length≤1000000) (a m:Nat) (h:U[a]?=some (m:Int)):DLend Try.prog 97 [.flat (.int .i64 ((a:Nat):Int)),.ref 6871947673600001 0,.ref 6871947673600002 0] [(225626701274425600001,some (.box [.own 225626701274425600002 U.length])),(225626701274425600002,some (.row 3 1 U.length (U.map fun x=>D.flat (.int .i64 x)))),(6871947673600001,some (.box [.ref 225626701274425600001 0])),(6871947673600002,some (.box [.clo (.func 97) [] [.ref 6871947673600001 0,.ref 6871947673600002 0]]))] [(225626701274425600001,some (.box [.own 225626701274425600002 U.length])),(225626701274425600002,some (.row 3 1 U.length (U.map fun x=>D.flat (.int .i64 x)))),(6871947673600001,some (.box [.ref 225626701274425600001 0])),(6871947673600002,some (.box [.clo (.func 97) [] [.ref 6871947673600001 0,.ref 6871947673600002 0]]))] (.flat (.int .i64 ((m:Nat):Int))):=by
 obtain⟨m2,hm,hma,hmm⟩:=hf.at_ a _ h
 have hm:m2=m:=by omega
 subst hm
 by_cases e:m2=a
 ·subst e
  exact po_ U hU m2 h
 ·have   hr:=fun _:Unit=>po_ U hU m2 hmm
  have hp:=ad_ U
  have ho:=b0_ U
  have hq:=as_ h
  have ha:=(List.getElem?_eq_some_iff.1 h).1
  have hl:(U.map fun x=>D.flat (.int .i64 x)).length=U.length:=by simp
  have   hset:List.take (a*1) (U.map fun x=>D.flat (.int .i64 x))++ [.flat (.int .i64 ((m2:Nat):Int))]++List.drop (a*1+1) (U.map fun x=>D.flat (.int .i64 x))=U.map fun x=>D.flat (.int .i64 x):=by
   have h1:=bk_ (x:= .flat (.int .i64 ((m2:Nat):Int))) (show a<(U.map fun x=>D.flat (.int .i64 x)).length by omega)
   unfold spliceD at h1
   rw [Nat.mul_one]
   refine h1.trans (List.ext_getElem? fun j=>?_)
   rw [List.getElem?_set]
   split
   ·    rename_i e1
        subst e1
        rw [if_pos (by omega),List.getElem?_map,h];rfl
   ·rfl
  clear h hmm hf
  generalize (U.map fun x=>D.flat (.int .i64 x))=LU at*
  refine DLend.enterA Try.func97 Try.ntmps97 ?_
  have hq2:partD false 1 (a*1) (List.take (a*1) LU++ [.flat (.int .i64 ((m2:Nat):Int))]++List.drop (a*1+1) LU)=some (.flat (.int .i64 ((m2:Nat):Int))):=by rw [hset];exact hq
  refine DW.walk ?_
  refine DC.t (ti_ (T.lendCA (ar:=[_]) (ds:=[_]) EntC.h (hr ()) rfl VlL.auto rfl (by first|rfl|decide +kernel) EsL.auto)) ⟨rfl,rfl,trivial⟩ (by repeat (first|exact trivial|refine⟨rfl,?_⟩)) ?_
  refine DC.walk ?_
  rw [hset]
  exact⟨.inr rfl,ResL.oneA⟩
theorem ib_ (U:List Int) (hf:Flat U) (hU:U.length≤1000000) (a m:Nat) (h:U[a]?=some (m:Int)):DLend Try.prog 53 [.ref 225626701274425600001 0,.flat (.int .i64 ((a:Nat):Int))] [(225626701274425600001,some (.box [.own 225626701274425600002 U.length])),(225626701274425600002,some (.row 3 1 U.length (U.map fun x=>D.flat (.int .i64 x))))] [(225626701274425600001,some (.box [.own 225626701274425600002 U.length])),(225626701274425600002,some (.row 3 1 U.length (U.map fun x=>D.flat (.int .i64 x))))] (.flat (.int .i64 ((m:Nat):Int))):=by
 have hx:=u2_ U hf hU a m h
 have hp:=ad_ U
 have ho:=b0_ U
 have h2:=IdAt.of 2 6871947673600001
 have h5:=IdAt.of 5 6871947673600002
 clear h hf
 generalize (U.map fun x=>D.flat (.int .i64 x))=LU at*
 refine DLend.enterA Try.func53 Try.ntmps53 ?_
 refine DW.walk ?_
 exact⟨.inr rfl,ResL.oneA⟩
theorem ya_ (U:List Int) (hf:Flat U) (hU:U.length≤1000000) (a b ma mb:Nat) (h1:U[a]?=some (ma:Int)) (h2:U[b]?=some (mb:Int)) (hle:ma≤mb):
  DLend Try.prog 120 [.ref 225626701274425600001 0,.flat (.int .i64 ((a:Nat):Int)),.flat (.int .i64 ((b:Nat):Int))] [(225626701274425600001,some (.box [.own 225626701274425600002 U.length])),(225626701274425600002,some (.row 3 1 U.length (U.map fun x=>D.flat (.int .i64 x))))] [(225626701274425600001,some (.box [.own 225626701274425600002 U.length])),(225626701274425600002,some (.row 3 1 U.length ((U.set mb (ma:Int)).map fun x=>D.flat (.int .i64 x))))] (.flat (.bool (decide ((ma:Int)≠(mb:Int))))):=by
 have x1:=ib_ U hf hU a ma h1
 have x2:=ib_ U hf hU b mb h2
 obtain⟨m2,e2,hm2,hmm⟩:=hf.at_ b _ h2
 have hbl:=(List.getElem?_eq_some_iff.1 h2).1
 have hal:=(List.getElem?_eq_some_iff.1 h1).1
 have hml:mb<U.length:=by omega
 have hp:=ad_ U
 have ho:=b0_ U
 have hl:(U.map fun x=>D.flat (.int .i64 x)).length=U.length:=by simp
 have hset:List.take (mb*1) (U.map fun x=>D.flat (.int .i64 x))++ [.flat (.int .i64 ((ma:Nat):Int))]++List.drop (mb*1+1) (U.map fun x=>D.flat (.int .i64 x))=((U.set mb (ma:Int)).map fun x=>D.flat (.int .i64 x)):=by
  have h1:=bk_ (x:= .flat (.int .i64 ((ma:Nat):Int))) (show mb<(U.map fun x=>D.flat (.int .i64 x)).length by omega)
  unfold spliceD at h1
  rw [Nat.mul_one]
  rw [List.map_set]
  exact h1
 have hp2:=ad_ (U.set mb (ma:Int))
 generalize ((U.set mb (ma:Int)).map fun x=>D.flat (.int .i64 x))=LV at*
 generalize (U.map fun x=>D.flat (.int .i64 x))=LU at*
 have hmx:(if (mb:Int)>(ma:Int) then (mb:Int) else (ma:Int))=(mb:Int):=by split <;> omega
 have hmn:(if (mb:Int)<(ma:Int) then (mb:Int) else (ma:Int))=(ma:Int):=by split <;> omega
 clear h1 h2 hf e2 hm2 hmm
 refine DLend.enterA Try.func120 Try.ntmps120 ?_
 refine DW.walk ?_
 rw [hset]
 exact⟨.inr rfl,ResL.oneA⟩
theorem vn_ (U:List Int) (hf:Flat U) (hU:U.length≤1000000) (a b ma mb:Nat) (h1:U[a]?=some (ma:Int)) (h2:U[b]?=some (mb:Int)) (hle:ma≤mb):
  DLend Try.prog 93 [.ref 225626701274425600001 0,.flat (.int .i64 ((a:Nat):Int)),.flat (.int .i64 ((b:Nat):Int))] [(225626701274425600001,some (.box [.own 225626701274425600002 U.length])),(225626701274425600002,some (.row 3 1 U.length (U.map fun x=>D.flat (.int .i64 x))))] [(225626701274425600001,some (.box [.own 225626701274425600002 U.length])),(225626701274425600002,some (.row 3 1 U.length ((U.set mb (ma:Int)).map fun x=>D.flat (.int .i64 x))))] (.tup [.flat (.bool (decide ((ma:Int)≠(mb:Int)))),.flat (.int .i64 0)]):=by
 have hj:=ya_ U hf hU a b ma mb h1 h2 hle
 have t1:=l7_ U a
 have t2:=l7_ U b
 have hbl:=(List.getElem?_eq_some_iff.1 h2).1
 have hal:=(List.getElem?_eq_some_iff.1 h1).1
 rw [decide_eq_true (by omega)] at t1 t2
 have hp:=ad_ U
 have hp2:=ad_ (U.set mb (ma:Int))
 generalize ((U.set mb (ma:Int)).map fun x=>D.flat (.int .i64 x))=LV at*
 generalize (U.map fun x=>D.flat (.int .i64 x))=LU at*
 clear h1 h2 hf
 refine DLend.enterA Try.func93 Try.ntmps93 ?_
 refine DW.walk ?_
 exact⟨.inr rfl,ResL.twoA⟩
theorem tp_ (U:List Int) (hf:Flat U) (hU:U.length≤1000000) (a ma:Nat) (h1:U[a]?=some (ma:Int)):
  DLend Try.prog 18 [.ref 225626701274425600001 0,.flat (.int .i64 ((a:Nat):Int))] [(225626701274425600001,some (.box [.own 225626701274425600002 U.length])),(225626701274425600002,some (.row 3 1 U.length (U.map fun x=>D.flat (.int .i64 x))))] [(225626701274425600001,some (.box [.own 225626701274425600002 U.length])),(225626701274425600002,some (.row 3 1 U.length (U.map fun x=>D.flat (.int .i64 x))))] (.tup [.flat (.int .i64 ((ma:Nat):Int)),.flat (.int .i64 0)]):=by
 have hh:=ib_ U hf hU a ma h1
 have t1:=l7_ U a
 have hal:=(List.getElem?_eq_some_iff.1 h1).1
 rw [decide_eq_true (by omega)] at t1
 have hp:=ad_ U
 generalize (U.map fun x=>D.flat (.int .i64 x))=LU at*
 clear h1 hf
 refine DLend.enterA Try.func18 Try.ntmps18 ?_
 refine DW.walk ?_
 exact⟨.inr rfl,ResL.twoA⟩
def ea_ (n j:Nat):List Int:=((List.range j).map fun (i:Nat)=>(i:Int))++List.replicate (n - j) 0
theorem ix_ {n j:Nat} (h:j≤n):(ea_ n j).length=n:=by simp [ea_];omega
def idU (n:Nat):List Int:=(List.range n).map fun (i:Nat)=>(i:Int)
theorem tm_ (n:Nat):ea_ n n=idU n:=by simp [ea_,idU]
theorem q3_ (n:Nat):ea_ n 0=List.replicate n 0:=by simp [ea_]
theorem ri_ {n j:Nat} (h:j<n):(ea_ n j).set j (j:Int)=ea_ n (j+1):=by
 refine List.ext_getElem? fun i=>?_
 have hl:=ix_ (n:=n) (j:=j) (by omega)
 rw [List.getElem?_set,hl]
 by_cases e:j=i
 ·subst e
  rw [if_pos rfl,if_pos h]
  unfold ea_
  rw [List.getElem?_append_left (by simp)]
  simp
 ·rw [if_neg e]
  unfold ea_
  by_cases e2:i<j
  ·rw [List.getElem?_append_left (by simp;omega),List.getElem?_append_left (by simp;omega)]
   simp [e2,show i<j+1 by omega]
  ·rw [List.getElem?_append_right (by simp;omega),List.getElem?_append_right (by simp;omega)]
   simp only [List.length_map,List.length_range,List.getElem?_replicate]
   by_cases e3:i<n
   ·rw [if_pos (by omega),if_pos (by omega)]
   ·rw [if_neg (by omega),if_neg (by omega)]
theorem tb_ {n j:Nat} (h:j<n):List.take (j*1) ((ea_ n j).map fun x=>D.flat (.int .i64 x))++ [.flat (.int .i64 ((j:Nat):Int))]++List.drop (j*1+1) ((ea_ n j).map fun x=>D.flat (.int .i64 x))=((ea_ n (j+1)).map fun x=>D.flat (.int .i64 x)):=by
 have hl:=ix_ (n:=n) (j:=j) (by omega)
 have h1:=bk_ (x:= .flat (.int .i64 ((j:Nat):Int))) (show j<(((ea_ n j).map fun x=>D.flat (.int .i64 x))).length by simp [hl,h])
 unfold spliceD at h1
 rw [Nat.mul_one,← ri_ h,List.map_set]
 exact h1
theorem aem (n:Nat) (hn:n≤4096):DLend Try.prog 92 [.flat (.int .i64 ((n:Nat):Int))] [(225626701274425600001,none),(225626701274425600002,none)] [(225626701274425600001,some (.box [.own 225626701274425600002 n])),(225626701274425600002,some (.row 3 1 n ((idU n).map fun x=>D.flat (.int .i64 x))))] (.tup [.ref 225626701274425600001 0,.flat (.int .i64 0)]):=by
 have h1:=IdAt.of 13 225626701274425600002
 have h2:=IdAt.of 15 225626701274425600001
 have hz:List.replicate n (D.flat (.int .i64 0))=((ea_ n 0).map fun x=>D.flat (.int .i64 x)):=by rw [q3_];simp
 have hset:=fun j (h:j<n)=>tb_ h
 have hlen:=fun j (h:j≤n)=>ix_ h
 have hp:=fun j=>ad_ (ea_ n j)
 refine DLend.enterA Try.func92 Try.ntmps92 ?_
 refine DW.walk ?_
 refine DW.loopA (fun j:Nat=>⟨[(4,.ref 225626701274425600001 0),(16,.flat (.int .i64 ((n:Nat):Int))),(17,.flat (.int .i64 ((j:Nat):Int)))],[(225626701274425600001,some (.box [.own 225626701274425600002 n])),(225626701274425600002,some (.row 3 1 n ((ea_ n j).map fun x=>D.flat (.int .i64 x))))]⟩) (fun j=>j≤n) (fun j=>n - j) 0 ?_ (Nat.zero_le _) (by have hp0:=hp 0;rw [← hz] at hp0 ⊢;generalize (List.replicate n (D.flat (.int .i64 0)))=RZ at *;exact Sub.auto)
 intro j hj
 rcases Nat.lt_or_ge j n with hlt|hge
 ·have hs:=hset j hlt
  have hl:=hlen j hj
  have hl2:(((ea_ n j).map fun x=>D.flat (.int .i64 x))).length=n:=by simp [hl]
  have q0:=hp j
  have q1:=hp (j+1)
  generalize hF1:((ea_ n (j+1)).map fun x=>D.flat (.int .i64 x))=F1 at*
  generalize hF0:((ea_ n j).map fun x=>D.flat (.int .i64 x))=F0 at*
  clear hset hlen hp hz
  refine DW.walk ?_
  rw [hs]
  exact⟨j+1,by omega,by omega,by rw [hF1];exact Sub.auto⟩
 ·obtain rfl:n=j:=by omega
  rw [tm_]
  have q0:=ad_ (idU n)
  generalize ((idU n).map fun x=>D.flat (.int .i64 x))=F0 at*
  clear hset hlen hp hz
  refine DW.walk ?_
  exact⟨.inr rfl,ResL.twoA⟩
end Go.Proofs.Ytichhfbkhnimmaa
