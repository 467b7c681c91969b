/- The reference: kept states, a place of a table (1 operands). No condition. -/
import Derived.Test.YtichhfbkhnimmaaYKPa
import Derived.Test.YtichhfbkhnimmaaYFA3
set_option linter.unusedSimpArgs false
set_option linter.unusedVariables false
set_option maxHeartbeats 4000000
set_option maxRecDepth 8000
namespace Go.Proofs.Ytichhfbkhnimmaa
open Go Go.RowKit Go.PP Go.Dm Go.Rt Go.Mn
theorem xe_ {cc:Code} (hsel:selC [1,1,1,0,1,2,2,1,0,2,1,0,1,2,2] j0_=some cc) (n L rl ta s p wd:Nat) (v t:Int) (x:Int) (LR LB LT LL LF TS R0 R1:List D) (q1:persL LR=true) (q2:persL LB=true) (q3:persL LT=true) (q4:persL LL=true) (q6:persL LF=true) (q7:persL TS=true) (q8:persL R0=true) (q9:persL R1=true) (hn:n≤512) (hL0:1≤L) (hL:L≤512) (hs:s<rl) (hrl:rl≤4096) (hp:p<wd) (hwd:wd≤262144) (hpL:p<L) (hrk:partD false 1 (s*1) LR=some (.flat (.int .i64 1))) (hx:partD false 1 (p*1) LL=some (.flat (.int .i64 x)))
  (hpl:DLend Try.prog 50 [.agg [.sl false 1 rl LR,.sl false 1 L LF,.own 419430400005 s],.flat (.int .i64 ((s:Nat):Int))] [(419430400005,some (.row 22 1 s TS))] [(419430400005,some (.row 22 1 s TS))] (.flat (.int .i64 ((wd:Nat):Int))))
  (hA:DFun Try.prog 58 [.agg [.sl false 1 rl LR,.sl false 1 n LB,.sl false 1 ta LT],.flat (.int .i64 ((s:Nat):Int)),.sl true 1 1 [.flat (.int .i64 x)]] (.tup [.flat (.int .i64 v),.flat (.int .i64 0)])) (hh:DFun Try.prog 102 [.sl false 1 L LL,.flat (.int .i64 v)] (.flat (.int .i64 t)))
  (hR:R0++ [.flat (.int .i64 t)]=R1):
  DW Try.prog 98 cc ⟨[(1,.sl false 1 L LL),(2,.ref 2 0),(4,.ref 4 0),(5,.ref 5 0),(7,.flat (.int .i64 ((s:Nat):Int))),(8,.own 105 p),(9,.flat (.int .i64 ((p:Nat):Int)))],[(2,some (.box [.sl false 1 rl LR,.sl false 1 n LB,.sl false 1 ta LT])),(4,some (.box [.flat (.slice none 0 0),.flat (.slice none 0 0),.flat (.slice none 0 0)])),(5,some (.box [.sl false 1 rl LR,.sl false 1 L LF,.own 419430400005 s])),(419430400005,some (.row 22 1 s TS)),(105,some (.row 3 1 p R0))]⟩ (Nm 98 ⟨[(1,.sl false 1 L LL),(2,.ref 2 0),(4,.ref 4 0),(5,.ref 5 0),(7,.flat (.int .i64 ((s:Nat):Int))),(8,.own 105 (p+1)),(9,.flat (.int .i64 (((p+1):Nat):Int)))],[(2,some (.box [.sl false 1 rl LR,.sl false 1 n LB,.sl false 1 ta LT])),(4,some (.box [.flat (.slice none 0 0),.flat (.slice none 0 0),.flat (.slice none 0 0)])),(5,some (.box [.sl false 1 rl LR,.sl false 1 L LF,.own 419430400005 s])),(419430400005,some (.row 22 1 s TS)),(105,some (.row 3 1 (p+1) R1))]⟩):=by
 refine DW.sel hsel (by rfl) ?_
 have hq1:p / L≤262144:=Nat.le_trans (Nat.div_le_self _ _) (by omega)
 have hq2:p % L<L:=Nat.mod_lt _ hL0
 have hpl2:=fun _:Unit=>hpl
 clear hpl
 refine DW.walk ?_
 refine DC.t (T.lendA (ar:=[_,_]) (ds:=[_,_]) EntC.h (hpl2 ()) rfl ⟨Vl.agg ⟨Vl.pers (by simp only [pers,q1]),Vl.pers (by simp only [pers,q6]),Vl.own rfl,trivial⟩,Vl.pers rfl,trivial⟩ rfl (by first|rfl|decide +kernel) EsL.auto) ⟨rfl,rfl,trivial⟩ (by repeat (first|exact trivial|refine⟨rfl,?_⟩)) ?_
 refine DC.walk ?_
 rw [hR]
 exact Nm.mk Sub.auto
theorem ye_ {cc:Code} (hsel:selC [1,1,1,0,1,2,2,1,0,2,1,0,1,2,2] j0_=some cc) (n L rl ta s p wd:Nat) (v t:Int) (x y:Int) (LR LB LT LL LF TS R0 R1:List D) (q1:persL LR=true) (q2:persL LB=true) (q3:persL LT=true) (q4:persL LL=true) (q6:persL LF=true) (q7:persL TS=true) (q8:persL R0=true) (q9:persL R1=true) (hn:n≤512) (hL0:1≤L) (hL:L≤512) (hs:s<rl) (hrl:rl≤4096) (hp:p<wd) (hwd:wd≤262144) (hpL:p / L<L) (hrk:partD false 1 (s*1) LR=some (.flat (.int .i64 2))) (hx:partD false 1 (p / L*1) LL=some (.flat (.int .i64 x))) (hy:partD false 1 (p % L*1) LL=some (.flat (.int .i64 y)))
  (hpl:DLend Try.prog 50 [.agg [.sl false 1 rl LR,.sl false 1 L LF,.own 419430400005 s],.flat (.int .i64 ((s:Nat):Int))] [(419430400005,some (.row 22 1 s TS))] [(419430400005,some (.row 22 1 s TS))] (.flat (.int .i64 ((wd:Nat):Int))))
  (hA:DFun Try.prog 58 [.agg [.sl false 1 rl LR,.sl false 1 n LB,.sl false 1 ta LT],.flat (.int .i64 ((s:Nat):Int)),.sl true 1 2 [.flat (.int .i64 x),.flat (.int .i64 y)]] (.tup [.flat (.int .i64 v),.flat (.int .i64 0)])) (hh:DFun Try.prog 102 [.sl false 1 L LL,.flat (.int .i64 v)] (.flat (.int .i64 t)))
  (hR:R0++ [.flat (.int .i64 t)]=R1):
  DW Try.prog 98 cc ⟨[(1,.sl false 1 L LL),(2,.ref 2 0),(4,.ref 4 0),(5,.ref 5 0),(7,.flat (.int .i64 ((s:Nat):Int))),(8,.own 105 p),(9,.flat (.int .i64 ((p:Nat):Int)))],[(2,some (.box [.sl false 1 rl LR,.sl false 1 n LB,.sl false 1 ta LT])),(4,some (.box [.flat (.slice none 0 0),.flat (.slice none 0 0),.flat (.slice none 0 0)])),(5,some (.box [.sl false 1 rl LR,.sl false 1 L LF,.own 419430400005 s])),(419430400005,some (.row 22 1 s TS)),(105,some (.row 3 1 p R0))]⟩ (Nm 98 ⟨[(1,.sl false 1 L LL),(2,.ref 2 0),(4,.ref 4 0),(5,.ref 5 0),(7,.flat (.int .i64 ((s:Nat):Int))),(8,.own 105 (p+1)),(9,.flat (.int .i64 (((p+1):Nat):Int)))],[(2,some (.box [.sl false 1 rl LR,.sl false 1 n LB,.sl false 1 ta LT])),(4,some (.box [.flat (.slice none 0 0),.flat (.slice none 0 0),.flat (.slice none 0 0)])),(5,some (.box [.sl false 1 rl LR,.sl false 1 L LF,.own 419430400005 s])),(419430400005,some (.row 22 1 s TS)),(105,some (.row 3 1 (p+1) R1))]⟩):=by
 refine DW.sel hsel (by rfl) ?_
 have hq1:p / L≤262144:=Nat.le_trans (Nat.div_le_self _ _) (by omega)
 have hq2:p % L<L:=Nat.mod_lt _ hL0
 have hpl2:=fun _:Unit=>hpl
 clear hpl
 refine DW.walk ?_
 refine DC.t (T.lendA (ar:=[_,_]) (ds:=[_,_]) EntC.h (hpl2 ()) rfl ⟨Vl.agg ⟨Vl.pers (by simp only [pers,q1]),Vl.pers (by simp only [pers,q6]),Vl.own rfl,trivial⟩,Vl.pers rfl,trivial⟩ rfl (by first|rfl|decide +kernel) EsL.auto) ⟨rfl,rfl,trivial⟩ (by repeat (first|exact trivial|refine⟨rfl,?_⟩)) ?_
 refine DC.walk ?_
 rw [hR]
 exact Nm.mk Sub.auto
theorem aah {cc:Code} (hsel:selC [1,1,1,0,1,2,2] j0_=some cc) (A:Au) (hok:AuOk A) (l:List Int) (hsh:ShutL A l) (LF:List D) (q6:persL LF=true) (s:Nat) (hs:s<A.r.length):
  DW Try.prog 98 cc ⟨[(1,.sl false 1 l.length (l.map fun x=>D.flat (.int .i64 x))),(2,.ref 2 0),(4,.ref 4 0),(5,.ref 5 0),(7,.flat (.int .i64 ((s:Nat):Int)))],[(2,some (.box [.sl false 1 A.r.length (A.r.map fun x=>D.flat (.int .i64 x)),.sl false 1 A.f.length (A.f.map fun x=>D.flat (.bool x)),.sl false 1 A.to.length (ag_ A.to)])),(4,some (.box [.flat (.slice none 0 0),.flat (.slice none 0 0),.flat (.slice none 0 0)])),(5,some (.box [.sl false 1 A.r.length (A.r.map fun x=>D.flat (.int .i64 x)),.sl false 1 l.length LF,.own 419430400005 s])),(419430400005,some (.row 22 1 s (ag_ ((aj_ l.length (cu_ A l) A.r).take s))))]⟩ (Nm 98 ⟨[(1,.sl false 1 l.length (l.map fun x=>D.flat (.int .i64 x))),(2,.ref 2 0),(4,.ref 4 0),(5,.ref 5 0),(7,.flat (.int .i64 (((s+1):Nat):Int)))],[(2,some (.box [.sl false 1 A.r.length (A.r.map fun x=>D.flat (.int .i64 x)),.sl false 1 A.f.length (A.f.map fun x=>D.flat (.bool x)),.sl false 1 A.to.length (ag_ A.to)])),(4,some (.box [.flat (.slice none 0 0),.flat (.slice none 0 0),.flat (.slice none 0 0)])),(5,some (.box [.sl false 1 A.r.length (A.r.map fun x=>D.flat (.int .i64 x)),.sl false 1 l.length LF,.own 419430400005 (s+1)])),(419430400005,some (.row 22 1 (s+1) (ag_ ((aj_ l.length (cu_ A l) A.r).take (s+1)))))]⟩):=by
 obtain⟨k1,k2,k3⟩:=de_ hok hs
 generalize (A.r.getD s 0).toNat=kk at*
 have hL0:=hsh.pos
 have hL:=hsh.hi
 have hn:=hok.hi
 have hrl:=hok.alpha.hi
 have hst:∀ p,DFun Try.prog 58 [auD A,.flat (.int .i64 ((s:Nat):Int)),.sl false 1 ((digs l.length kk p).map fun d=>l.getD d.toNat 0).length (((digs l.length kk p).map fun d=>l.getD d.toNat 0).map fun x=>D.flat (.int .i64 x))] (.tup [.flat (.int .i64 (atI A s ((digs l.length kk p).map fun d=>l.getD d.toNat 0))),.flat (.int .i64 0)])∧DFun Try.prog 102 [.sl false 1 l.length (l.map fun x=>D.flat (.int .i64 x)),.flat (.int .i64 (atI A s ((digs l.length kk p).map fun d=>l.getD d.toNat 0)))] (.flat (.int .i64 (cu_ A l s (digs l.length kk p)))):=fun p=>
  ⟨iy_ A hok s _ (hsh.fits k1 (by rw [b8_]) (c5_ hL0 kk p)),nm_ l (by omega) _⟩
 have hld:∀ p,p<l.length→ ∃ x,partD false 1 (p*1) (l.map fun x=>D.flat (.int .i64 x))=some (.flat (.int .i64 x))∧l.getD p 0=x:=fun p h=>⟨l[p],as_ (List.getElem?_eq_getElem h),by rw [List.getD_eq_getElem?_getD,List.getElem?_eq_getElem h];rfl⟩
 have hrk:=as_ k1
 have pT:=al_ ((aj_ l.length (cu_ A l) A.r).take s)
 have pT1:=al_ ((aj_ l.length (cu_ A l) A.r).take (s+1))
 have hpl:=rw_ A.r LF (ag_ ((aj_ l.length (cu_ A l) A.r).take s)) l.length s s kk k1 k2 hL q6 pT hrl (by omega)
 have hsr:=gg_ (er_ (n:=l.length) (T:=cu_ A l) k1)
 have htb:az_ l.length (cu_ A l) s (kk:Int)=(List.range (ba_ (kk:Int) l.length)).map fun p=>cu_ A l s (digs l.length kk p):=by simp [az_]
 rw [htb] at hsr
 simp only [List.length_map,List.length_range] at hsr
 have hwb:=lj_ (k:=(kk:Int)) (n:=l.length) (by omega) hL
 have hwe:ba_ (kk:Int) l.length=l.length ^ kk:=by unfold ba_;rw [Int.toNat_natCast]
 have q1:=ad_ A.r
 have q2:=ai_ A.f
 have q3:=al_ A.to
 have q4:=ad_ l
 clear htb k1 k3
 rw [au_ A] at hst
 clear hok hsh
 generalize (A.r.map fun x=>D.flat (.int .i64 x))=LR at*
 generalize (A.f.map fun x=>D.flat (.bool x))=LB at*
 generalize ag_ A.to=LT at*
 generalize A.r.length=rl at*
 generalize A.f.length=n at*
 generalize A.to.length=ta at*
 generalize hTS1:(ag_ ((aj_ l.length (cu_ A l) A.r).take (s+1)))=TS1 at*
 generalize (ag_ ((aj_ l.length (cu_ A l) A.r).take s))=TS at*
 generalize cu_ A l=Tt at*
 generalize (l.map fun x=>D.flat (.int .i64 x))=LL at*
 generalize l.length=L at*
 generalize ba_ (kk:Int) L=wd at*
 refine DW.sel hsel (by rfl) ?_
 refine DW.walkTo 10 ?_
 refine DW.adopt 8 105 3 1 rfl rfl ?_
 refine DW.walk ?_
 refine DW.loopA (fun p:Nat=>⟨[(1,.sl false 1 L LL),(2,.ref 2 0),(4,.ref 4 0),(5,.ref 5 0),(7,.flat (.int .i64 ((s:Nat):Int))),(8,.own 105 p),(9,.flat (.int .i64 ((p:Nat):Int)))],[(2,some (.box [.sl false 1 rl LR,.sl false 1 n LB,.sl false 1 ta LT])),(4,some (.box [.flat (.slice none 0 0),.flat (.slice none 0 0),.flat (.slice none 0 0)])),(5,some (.box [.sl false 1 rl LR,.sl false 1 L LF,.own 419430400005 s])),(419430400005,some (.row 22 1 s TS)),(105,some (.row 3 1 p (((List.range p).map fun q=>Tt s (digs L kk q)).map fun x=>D.flat (.int .i64 x))))]⟩) (fun p=>p≤wd) (fun p=>wd - p) 0 ?_ (Nat.zero_le _) (by simp only [List.range_zero,List.map_nil];exact Sub.auto)
 intro p hp
 rcases Nat.lt_or_ge p wd with hlt|hge
 ·rcases (show kk=0∨kk=1∨kk=2 by omega) with rfl|rfl|rfl
  ·have  hlt2:p<L ^ 0:=by rw [← hwe];exact hlt
   have hdg:digs L 0 p=[]:=rfl
   have d1:=hst p
   rw [hdg] at d1
   rw [show ([]:List Int).map (fun d=>l.getD d.toNat 0)=[] from rfl] at d1
   obtain⟨d1,d2⟩:=d1
   have d1:=DFun.le (args':=[_,_,.flat (.slice none 0 0)]) d1 ⟨Le.refl _,Le.refl _,Le.nil _ _,trivial⟩ (Le.refl _)
   have  hR:(((List.range p).map fun q=>Tt s (digs L 0 q)).map fun x=>D.flat (.int .i64 x))++ [.flat (.int .i64 (Tt s []))]=(((List.range (p+1)).map fun q=>Tt s (digs L 0 q)).map fun x=>D.flat (.int .i64 x)):=by
        rw [List.range_succ,List.map_append,List.map_append,← hdg];rfl
   refine (x8_ (by rfl) n L rl ta s p wd _ _ LR LB LT LL LF TS _ _ q1 q2 q3 q4 q6 pT (ad_ _) (ad_ _) hn hL0 hL hs hrl hlt hwb hrk hpl d1 d2 hR).mono ?_
   rintro e s' ⟨rfl,hsub⟩
   exact⟨p+1,by omega,by omega,hsub⟩
  ·have  hlt2:p<L ^ 1:=by rw [← hwe];exact hlt
   have hdg:digs L 1 p=[((p:Nat):Int)]:=ae7 (by simpa using hlt2)
   have hpL:p<L:=by simpa using hlt2
   obtain⟨x,hx,hxd⟩:=hld p hpL
   have d1:=hst p
   rw [hdg] at d1
   rw [show ([((p:Nat):Int)]:List Int).map (fun d=>l.getD d.toNat 0)=[x] from by rw [List.map_cons,List.map_nil,Int.toNat_natCast,hxd]] at d1
   obtain⟨d1,d2⟩:=d1
   have d1:=DFun.le (args':=[_,_,.sl true 1 1 [.flat (.int .i64 x)]]) d1 ⟨Le.refl _,Le.refl _,Le.full,trivial⟩ (Le.refl _)
   have  hR:(((List.range p).map fun q=>Tt s (digs L 1 q)).map fun x=>D.flat (.int .i64 x))++ [.flat (.int .i64 (Tt s [((p:Nat):Int)]))]=(((List.range (p+1)).map fun q=>Tt s (digs L 1 q)).map fun x=>D.flat (.int .i64 x)):=by
        rw [List.range_succ,List.map_append,List.map_append,← hdg];rfl
   refine (xe_ (by rfl) n L rl ta s p wd _ _ x LR LB LT LL LF TS _ _ q1 q2 q3 q4 q6 pT (ad_ _) (ad_ _) hn hL0 hL hs hrl hlt hwb hpL hrk hx hpl d1 d2 hR).mono ?_
   rintro e s' ⟨rfl,hsub⟩
   exact⟨p+1,by omega,by omega,hsub⟩
  ·have  hlt2:p<L ^ 2:=by rw [← hwe];exact hlt
   have hdg:digs L 2 p=[((p / L:Nat):Int),((p % L:Nat):Int)]:=ael hlt2
   have hpL:p / L<L:=Nat.div_lt_of_lt_mul (by rw [← Nat.pow_two];exact hlt2)
   have hpR:p % L<L:=Nat.mod_lt _ hL0
   obtain⟨x,hx,hxd⟩:=hld _ hpL
   obtain⟨y,hy,hyd⟩:=hld _ hpR
   have d1:=hst p
   rw [hdg] at d1
   rw [show ([((p / L:Nat):Int),((p % L:Nat):Int)]:List Int).map (fun d=>l.getD d.toNat 0)=[x,y] from by rw [List.map_cons,List.map_cons,List.map_nil,Int.toNat_natCast,Int.toNat_natCast,hxd,hyd]] at d1
   obtain⟨d1,d2⟩:=d1
   have d1:=DFun.le (args':=[_,_,.sl true 1 2 [.flat (.int .i64 x),.flat (.int .i64 y)]]) d1 ⟨Le.refl _,Le.refl _,Le.full,trivial⟩ (Le.refl _)
   have  hR:(((List.range p).map fun q=>Tt s (digs L 2 q)).map fun x=>D.flat (.int .i64 x))++ [.flat (.int .i64 (Tt s [((p / L:Nat):Int),((p % L:Nat):Int)]))]=(((List.range (p+1)).map fun q=>Tt s (digs L 2 q)).map fun x=>D.flat (.int .i64 x)):=by
        rw [List.range_succ,List.map_append,List.map_append,← hdg];rfl
   refine (ye_ (by rfl) n L rl ta s p wd _ _ x y LR LB LT LL LF TS _ _ q1 q2 q3 q4 q6 pT (ad_ _) (ad_ _) hn hL0 hL hs hrl hlt hwb hpL hrk hx hy hpl d1 d2 hR).mono ?_
   rintro e s' ⟨rfl,hsub⟩
   exact⟨p+1,by omega,by omega,hsub⟩
 ·obtain rfl:p=wd:=by omega
  have pR:=ad_ ((List.range p).map fun q=>Tt s (digs L kk q))
  generalize (((List.range p).map fun q=>Tt s (digs L kk q)).map fun x=>D.flat (.int .i64 x))=RW at*
  have hpl2:=fun _:Unit=>hpl
  clear hpl hst hwe hld
  refine DW.walk ?_
  refine DC.t (T.lendA (ar:=[_,_]) (ds:=[_,_]) EntC.h (hpl2 ()) rfl ⟨Vl.agg ⟨Vl.pers (by simp only [pers,q1]),Vl.pers (by simp only [pers,q6]),Vl.own rfl,trivial⟩,Vl.pers rfl,trivial⟩ rfl (by first|rfl|decide +kernel) EsL.auto) ⟨rfl,rfl,trivial⟩ (by repeat (first|exact trivial|refine⟨rfl,?_⟩)) ?_
  refine DC.walkTo 21 ?_
  refine DW.sub (s':=⟨[(1,.sl false 1 L LL),(2,.ref 2 0),(4,.ref 4 0),(5,.ref 5 0),(7,.flat (.int .i64 ((s:Nat):Int))),(8,.sl false 1 p RW)],[(2,some (.box [.sl false 1 rl LR,.sl false 1 n LB,.sl false 1 ta LT])),(4,some (.box [.flat (.slice none 0 0),.flat (.slice none 0 0),.flat (.slice none 0 0)])),(5,some (.box [.sl false 1 rl LR,.sl false 1 L LF,.own 419430400005 s])),(419430400005,some (.row 22 1 s TS))]⟩) Sub.auto ?_
  refine DW.walk ?_
  rw [← hsr]
  exact Nm.mk Sub.auto
theorem xw_ (A:Au) (hok:AuOk A) (l:List Int) (hsh:ShutL A l):DFun Try.prog 103 [auD A,.sl false 1 l.length (l.map fun x=>D.flat (.int .i64 x))] (auD (aw_ A l)):=by
 have hL0:=hsh.pos
 have hL:=hsh.hi
 have hn:=hok.hi
 have hrl:=hok.alpha.hi
 have hsy:=fun (cc:Code) (h:selC [1,1,1,0,1,2,2] j0_=some cc) (LF:List D) q6 s hs=>aah h A hok l hsh LF q6 s hs
 have hld:∀ i,i<l.length→ ∃ x:Nat,partD false 1 (i*1) (l.map fun x=>D.flat (.int .i64 x))=some (.flat (.int .i64 ((x:Nat):Int)))∧x<A.f.length∧partD false 1 (x*1) (A.f.map fun x=>D.flat (.bool x))=some (.flat (.bool (fz_ A l i))):=fun i h=>by
  have h1:=hsh.rng l[i] (List.getElem_mem h)
  obtain⟨x,hx⟩:=Int.eq_ofNat_of_zero_le h1.1
  have hxl:x<A.f.length:=by omega
  refine⟨x,as_ (by rw [List.getElem?_eq_getElem h,hx]),hxl,dy_ ?_⟩
  unfold fz_
  rw [List.getD_eq_getElem?_getD (l:=l),List.getElem?_eq_getElem h,Option.getD_some,hx,Int.toNat_natCast,List.getD_eq_getElem?_getD,List.getElem?_eq_getElem hxl];rfl
 have hres:auD (aw_ A l)= .agg [.sl false 1 A.r.length (A.r.map fun x=>D.flat (.int .i64 x)),.sl false 1 l.length (((List.range l.length).map (fz_ A l)).map fun x=>D.flat (.bool x)),.sl false 1 A.r.length (ag_ (aj_ l.length (cu_ A l) A.r))]:=by
  rw [au_]
  have h1:(aw_ A l).f.length=l.length:=be_ ..
  have h2:(aw_ A l).to.length=A.r.length:=et_ ..
  rw [h1,h2]
  rfl
 rw [hres]
 have htl:(aj_ l.length (cu_ A l) A.r).length=A.r.length:=by simp [aj_]
 have q1:=ad_ A.r
 have q2:=ai_ A.f
 have q3:=al_ A.to
 have q4:=ad_ l
 have pTs:=fun s=>al_ ((aj_ l.length (cu_ A l) A.r).take s)
 rw [au_ A]
 clear hres hok hsh
 generalize (A.r.map fun x=>D.flat (.int .i64 x))=LR at*
 generalize (A.f.map fun x=>D.flat (.bool x))=LB at*
 generalize ag_ A.to=LT at*
 generalize (l.map fun x=>D.flat (.int .i64 x))=LL at*
 generalize hTab:aj_ l.length (cu_ A l) A.r=TB at*
 generalize A.r.length=rl at*
 generalize A.f.length=n at*
 generalize A.to.length=ta at*
 generalize l.length=L at*
 generalize fz_ A l=Ff at*
 clear hTab
 refine DFun.enterA Try.func103 Try.ntmps103 ?_
 refine DW.walkTo 2 ?_
 refine DW.adoptBox 5 1 103 4 1 rfl rfl rfl ?_
 refine DW.adoptBox 5 2 419430400005 22 1 rfl rfl rfl ?_
 refine DW.walk ?_
 refine DW.loopA (fun i:Nat=>⟨[(1,.sl false 1 L LL),(2,.ref 2 0),(4,.ref 4 0),(5,.ref 5 0),(6,.flat (.int .i64 ((i:Nat):Int)))],[(2,some (.box [.sl false 1 rl LR,.sl false 1 n LB,.sl false 1 ta LT])),(4,some (.box [.flat (.slice none 0 0),.flat (.slice none 0 0),.flat (.slice none 0 0)])),(5,some (.box [.sl false 1 rl LR,.own 103 i,.own 419430400005 0])),(103,some (.row 4 1 i (((List.range i).map Ff).map fun x=>D.flat (.bool x)))),(419430400005,some (.row 22 1 0 []))]⟩) (fun i=>i≤L) (fun i=>L - i) 0 ?_ (Nat.zero_le _)
 intro i hi
 rcases Nat.lt_or_ge i L with hlt|hge
 ·obtain⟨x,h1,h2,h3⟩:=hld i hlt
  have p0:=ai_ ((List.range i).map Ff)
  have p1:=ai_ ((List.range (i+1)).map Ff)
  have hsn:(((List.range i).map Ff).map fun x=>D.flat (.bool x))++ [.flat (.bool (Ff i))]=(((List.range (i+1)).map Ff).map fun x=>D.flat (.bool x)):=by rw [List.range_succ];simp
  clear hsy hld
  generalize Ff i=b at*
  generalize hX1:(((List.range (i+1)).map Ff).map fun x=>D.flat (.bool x))=X1 at*
  generalize (((List.range i).map Ff).map fun x=>D.flat (.bool x))=X0 at*
  refine DW.walk ?_
  rw [hsn]
  exact⟨i+1,by omega,by omega,by rw [hX1];exact Sub.auto⟩
 ·obtain rfl:L=i:=by omega
  clear hld
  have pF:=ai_ ((List.range L).map Ff)
  generalize (((List.range L).map Ff).map fun x=>D.flat (.bool x))=LF at*
  refine DW.walkTo 6 ?_
  refine DW.sub (s':=⟨[(1,.sl false 1 L LL),(2,.ref 2 0),(4,.ref 4 0),(5,.ref 5 0)],[(2,some (.box [.sl false 1 rl LR,.sl false 1 n LB,.sl false 1 ta LT])),(4,some (.box [.flat (.slice none 0 0),.flat (.slice none 0 0),.flat (.slice none 0 0)])),(5,some (.box [.sl false 1 rl LR,.sl false 1 L LF,.own 419430400005 0])),(419430400005,some (.row 22 1 0 []))]⟩) Sub.auto ?_
  refine DW.walk ?_
  refine DW.loopA (fun s:Nat=>⟨[(1,.sl false 1 L LL),(2,.ref 2 0),(4,.ref 4 0),(5,.ref 5 0),(7,.flat (.int .i64 ((s:Nat):Int)))],[(2,some (.box [.sl false 1 rl LR,.sl false 1 n LB,.sl false 1 ta LT])),(4,some (.box [.flat (.slice none 0 0),.flat (.slice none 0 0),.flat (.slice none 0 0)])),(5,some (.box [.sl false 1 rl LR,.sl false 1 L LF,.own 419430400005 s])),(419430400005,some (.row 22 1 s (ag_ (TB.take s))))]⟩) (fun s=>s≤rl) (fun s=>rl - s) 0 ?_ (Nat.zero_le _)
  intro s hs
  rcases Nat.lt_or_ge s rl with hsl|hsg
  ·refine (hsy _ (by rfl) LF pF s hsl).mono ?_
   rintro e s' ⟨rfl,hsub⟩
   exact⟨s+1,by omega,by omega,hsub⟩
  ·obtain rfl:s=rl:=by omega
   rw [List.take_of_length_le (show TB.length≤s by omega)]
   have pT:=al_ TB
   generalize ag_ TB=TT at*
   clear hsy pTs
   refine DW.walkTo 22 ?_
   refine DW.sub (s':=⟨[(1,.sl false 1 L LL),(2,.ref 2 0),(4,.ref 4 0),(5,.ref 5 0)],[(2,some (.box [.sl false 1 s LR,.sl false 1 n LB,.sl false 1 ta LT])),(4,some (.box [.flat (.slice none 0 0),.flat (.slice none 0 0),.flat (.slice none 0 0)])),(5,some (.box [.sl false 1 s LR,.sl false 1 L LF,.sl false 1 s TT]))]⟩) Sub.auto ?_
   refine DW.walk ?_
   exact⟨.inr rfl,ResOk.cellA [] rfl rfl rfl TyI.ag TyI.sz trivial (VwL.pers (by simp [persL,pers,q1,pF,pT])) (Le.refl _)⟩
theorem um_ (A:Au) (hok:AuOk A) (l:List Int) (hp:PermOk A.f.length l):DFun Try.prog 61 [auD A,.sl false 1 l.length (l.map fun x=>D.flat (.int .i64 x))] (.tup [auD (aw_ A (dg_ l)),.flat (.int .i64 0)]):=by
 have hn:=hok.hi
 have hll:l.length=A.f.length:=hp.len
 have hkd:=xw_ A hok (dg_ l) (qu_ hok hp)
 have hbl:(dg_ l).length=A.f.length:=by rw [i2_,hll]
 rw [hbl] at hkd
 have hin:∀ i:Nat,i<A.f.length→(i:Int)∈l:=fun i h=>ei_ _ _ hp i h
 have hh:∀ i:Nat,i<A.f.length→DFun Try.prog 102 [.sl false 1 l.length (l.map fun x=>D.flat (.int .i64 x)),.flat (.int .i64 ((i:Nat):Int))] (.flat (.int .i64 (((l.idxOf (i:Int)):Nat):Int))):=fun i h=>by
  rw [← bz_ (hin i h)];exact nm_ l (by omega) _
 have hsn:∀ i,(((List.range i).map fun (i:Nat)=>((l.idxOf (i:Int):Nat):Int)).map fun x=>D.flat (.int .i64 x))++ [.flat (.int .i64 (((l.idxOf (i:Int)):Nat):Int))]=(((List.range (i+1)).map fun (i:Nat)=>((l.idxOf (i:Int):Nat):Int)).map fun x=>D.flat (.int .i64 x)):=fun i=>by rw [List.range_succ];simp
 have hpX:=fun i=>ad_ ((List.range i).map fun (i:Nat)=>((l.idxOf (i:Int):Nat):Int))
 have hbe:dg_ l=(List.range A.f.length).map fun (i:Nat)=>((l.idxOf (i:Int):Nat):Int):=by unfold dg_;rw [hll]
 have q4:=ad_ l
 have k1:=ad_ (aw_ A (dg_ l)).r
 have k2:=ai_ (aw_ A (dg_ l)).f
 have k3:=al_ (aw_ A (dg_ l)).to
 rw [au_ (aw_ A (dg_ l))] at hkd ⊢
 generalize (aw_ A (dg_ l)).to.length=kt at*
 generalize (aw_ A (dg_ l)).f.length=kb at*
 generalize (aw_ A (dg_ l)).r.length=kr at*
 generalize ag_ (aw_ A (dg_ l)).to=KT at*
 generalize ((aw_ A (dg_ l)).r.map fun x=>D.flat (.int .i64 x))=KR at*
 generalize ((aw_ A (dg_ l)).f.map fun x=>D.flat (.bool x))=KB at*
 rw [hbe] at hkd
 rw [hll] at*
 clear hbe hbl hp hok hin
 have q1:=ad_ A.r
 have q2:=ai_ A.f
 have q3:=al_ A.to
 rw [au_ A] at hkd ⊢
 generalize (A.r.map fun x=>D.flat (.int .i64 x))=LR at*
 generalize (A.f.map fun x=>D.flat (.bool x))=LB at*
 generalize ag_ A.to=LT at*
 generalize A.r.length=lr at*
 generalize A.f.length=n at*
 generalize A.to.length=lt at*
 generalize (l.map fun x=>D.flat (.int .i64 x))=LL at*
 refine DFun.enterA Try.func61 Try.ntmps61 ?_
 refine DW.walkTo 4 ?_
 refine DW.adopt 6 106 3 1 rfl rfl ?_
 refine DW.walk ?_
 refine DW.loopA (fun i:Nat=>⟨[(1,.sl false 1 n LL),(2,.ref 2 0),(4,.ref 4 0),(6,.own 106 i),(7,.flat (.int .i64 ((i:Nat):Int)))],[(2,some (.box [.sl false 1 lr LR,.sl false 1 n LB,.sl false 1 lt LT])),(4,some (.box [.flat (.slice none 0 0),.flat (.slice none 0 0),.flat (.slice none 0 0)])),(106,some (.row 3 1 i (((List.range i).map fun (i:Nat)=>((l.idxOf (i:Int):Nat):Int)).map fun x=>D.flat (.int .i64 x))))]⟩) (fun i=>i≤n) (fun i=>n - i) 0 ?_ (Nat.zero_le _)
 intro i hi
 rcases Nat.lt_or_ge i n with hlt|hge
 ·have h1:=hh i hlt
  have h2:=hsn i
  have y0:=hpX i
  have y1:=hpX (i+1)
  clear hh hsn hpX hkd
  generalize hX1:(((List.range (i+1)).map fun (i:Nat)=>((l.idxOf (i:Int):Nat):Int)).map fun x=>D.flat (.int .i64 x))=X1 at*
  generalize (((List.range i).map fun (i:Nat)=>((l.idxOf (i:Int):Nat):Int)).map fun x=>D.flat (.int .i64 x))=X0 at*
  generalize l.idxOf (i:Int)=x at*
  refine DW.walk ?_
  rw [h2]
  exact⟨i+1,by omega,by omega,by rw [hX1];exact Sub.auto⟩
 ·obtain rfl:n=i:=by omega
  have y0:=hpX n
  clear hh hsn hpX
  generalize (((List.range n).map fun (i:Nat)=>((l.idxOf (i:Int):Nat):Int)).map fun x=>D.flat (.int .i64 x))=X0 at*
  refine DW.walkTo 11 ?_
  refine DW.sub (s':=⟨[(1,.sl false 1 n LL),(2,.ref 2 0),(4,.ref 4 0),(6,.sl false 1 n X0)],[(2,some (.box [.sl false 1 lr LR,.sl false 1 n LB,.sl false 1 lt LT])),(4,some (.box [.flat (.slice none 0 0),.flat (.slice none 0 0),.flat (.slice none 0 0)]))]⟩) Sub.auto ?_
  refine DW.walk ?_
  exact⟨.inr rfl,ResOk.cellTmpA [] rfl rfl rfl TyI.ag TyI.sz rfl trivial (VwL.pers (by simp [persL,pers,k1,k2,k3])) (Le.refl _) (Vw.pers rfl)⟩
def stI (A:Au) (i:Nat):List Int:=bt_ A [] ((ac_ A).take i)
def stA (A:Au):List Int:=bt_ A [] (ac_ A)
def plI (A:Au) (i:Nat):Nat→Nat→Int:=fun _ p=>if (p:Int)∈(ac_ A).take i then ((idxC A (stA A) (p:Int):Nat):Int) else -1
def hcI (A:Au) (i:Nat) (x:Int) (k:Nat):Int:=if clsI A x∈((stI A i).take k).map (clsI A) then ((((stI A i).map (clsI A)).idxOf (clsI A x):Nat):Int) else -1
theorem f4_ (A:Au):∀ (xs ys acc:List Int),bt_ A acc (xs++ys)=bt_ A (bt_ A acc xs) ys
 | [],_,_=>rfl
 |x::xs,ys,acc=>by rw [List.cons_append,bt_,bt_,f4_ A xs ys]
theorem lo_ {A:Au} {i:Nat} {x:Int} (h:(ac_ A)[i]?=some x):stI A (i+1)=if clsI A x∈(stI A i).map (clsI A) then stI A i else stI A i++ [x]:=by
 unfold stI
 rw [List.take_add_one,h,Option.toList_some,f4_]
 rfl
theorem n7_ (A:Au) (i:Nat):stI A i <+: stA A:=by
 unfold stI stA
 have h:bt_ A [] (ac_ A)=bt_ A (bt_ A [] ((ac_ A).take i)) ((ac_ A).drop i):=by rw [← f4_,List.take_append_drop]
 rw [h]
 exact hg_ A _ _
theorem xq_ (A:Au):stI A (ac_ A).length=stA A:=by unfold stI stA;rw [List.take_length]
theorem abg (A:Au) (i:Nat):((stI A i).map (clsI A)).Nodup:=(dw_ A _ [] (by simp)).1
theorem xy_ {A:Au} {i:Nat} {y:Int} (h:y∈stI A i):y∈ac_ A:=by
 rcases (dw_ A _ [] (by simp)).2.1 y h with h|h
 ·cases h
 ·exact List.mem_of_mem_take h
theorem ab6 {A:Au} {i:Nat} {x:Int} (h:clsI A x∈(stI A i).map (clsI A)):idxC A (stA A) x=((stI A i).map (clsI A)).idxOf (clsI A x):=by
 obtain⟨t,ht⟩:=n7_ A i
 unfold idxC
 rw [← ht,List.map_append,List.idxOf_append,if_pos h]
theorem abv {A:Au} {i:Nat} {x:Int} (hx:(ac_ A)[i]?=some x) (h:clsI A x ∉ (stI A i).map (clsI A)):idxC A (stA A) x=(stI A i).length:=by
 have h1:=lo_ hx
 rw [if_neg h] at h1
 obtain⟨t,ht⟩:=n7_ A (i+1)
 unfold idxC
 rw [← ht,h1,List.map_append,List.map_append,List.append_assoc,List.idxOf_append,if_neg h,List.map_cons,List.map_nil,List.cons_append,List.idxOf_cons_self,List.length_map,Nat.zero_add]
theorem s4_ {A:Au} (hok:AuOk A) {i:Nat} {x:Int} (h:(ac_ A)[i]?=some x):x ∉ (ac_ A).take i:=fun hm=>by
 obtain⟨j,hj,hj2⟩:=List.mem_take_iff_getElem.1 hm
 have h1:=List.getElem?_eq_some_iff.1 h
 exact absurd (hj2.trans h1.2.symm) (List.pairwise_iff_getElem.1 (gn_ hok) j i (by omega) h1.1 (by omega))
theorem cx_ {M M':Nat→Nat→Int} {n p:Nat} (h:∀ j,j<n→M p j=M' p j):mrow M n p=mrow M' n p:=by
 unfold mrow
 refine List.map_congr_left fun j hj=>?_
 rw [h j (List.mem_range.1 hj)]
theorem xn_ (A:Au) (n:Nat):mrow (plI A 0) n 0=mrow (fun _ _=> -1) n 0:=cx_ fun j _=>by simp [plI]
theorem vv_ {A:Au} (hok:AuOk A) {i x:Nat} (h:(ac_ A)[i]?=some (x:Int)) (n:Nat):mrow (setM (plI A i) 0 x (-1)) n 0=mrow (plI A i) n 0:=cx_ fun j _=>by
 unfold setM
 by_cases e:j=x
 ·subst e
  rw [if_pos ⟨rfl,rfl⟩]
  unfold plI
  rw [if_neg (s4_ hok h)]
 ·rw [if_neg (fun q=>e q.2)]
theorem y2_ {A:Au} {i x:Nat} (h:(ac_ A)[i]?=some (x:Int)) (n:Nat):mrow (setM (plI A i) 0 x ((idxC A (stA A) (x:Int):Nat):Int)) n 0=mrow (plI A (i+1)) n 0:=cx_ fun j _=>by
 unfold setM plI
 rw [List.take_add_one,h,Option.toList_some]
 by_cases e:j=x
 ·subst e
  rw [if_pos ⟨rfl,rfl⟩,if_pos (by simp)]
 ·rw [if_neg (fun q=>e q.2)]
  have hn:((j:Nat):Int)≠(x:Int):=by omega
  by_cases hm:((j:Nat):Int)∈(ac_ A).take i
  ·rw [if_pos hm,if_pos (List.mem_append_left _ hm)]
  ·rw [if_neg hm,if_neg (fun q=>(List.mem_append.1 q).elim hm (fun q=>hn (List.mem_singleton.1 q)))]
theorem set_set (M:Nat→Nat→Int) (x n:Nat) (u v:Int):mrow (setM (setM M 0 x u) 0 x v) n 0=mrow (setM M 0 x v) n 0:=cx_ fun j _=>by
 unfold setM
 by_cases e:0=0∧j=x
 ·rw [if_pos e,if_pos e]
 ·rw [if_neg e,if_neg e,if_neg e]
theorem yl_ (A:Au) (i:Nat) (x:Int):hcI A i x 0= -1:=by simp [hcI]
theorem abz {A:Au} {i k:Nat} {x y:Int} (hy:(stI A i)[k]?=some y) (he:clsI A y=clsI A x):hcI A i x (k+1)=(k:Int):=by
 unfold hcI
 have hm:clsI A x∈((stI A i).take (k+1)).map (clsI A):=by rw [List.take_add_one,hy,← he];simp
 rw [if_pos hm]
 have hnd:=abg A i
 have hk:=(List.getElem?_eq_some_iff.1 hy).1
 have hg:((stI A i).map (clsI A))[k]?=some (clsI A x):=by rw [List.getElem?_map,hy,← he];rfl
 have h1:=(List.getElem?_eq_some_iff.1 hg)
 rw [← h1.2,hnd.idxOf_getElem]
theorem x5_ {A:Au} {i k:Nat} {x y:Int} (hy:(stI A i)[k]?=some y) (he:clsI A y≠clsI A x):hcI A i x (k+1)=hcI A i x k:=by
 unfold hcI
 have hm:clsI A x∈((stI A i).take (k+1)).map (clsI A)↔clsI A x∈((stI A i).take k).map (clsI A):=by
  rw [List.take_add_one,hy,List.map_append,List.mem_append]
  simp [Ne.symm he]
 by_cases h:clsI A x∈((stI A i).take k).map (clsI A)
 ·rw [if_pos h,if_pos (hm.2 h)]
 ·rw [if_neg h,if_neg (fun q=>h (hm.1 q))]
theorem adm {A:Au} {i:Nat} {x:Int} (h:clsI A x∈(stI A i).map (clsI A)):hcI A i x (stI A i).length=((idxC A (stA A) x:Nat):Int):=by
 unfold hcI
 rw [List.take_length,if_pos h,ab6 h]
theorem ab8 {A:Au} {i:Nat} {x:Int} (h:clsI A x ∉ (stI A i).map (clsI A)):hcI A i x (stI A i).length= -1:=by
 unfold hcI
 rw [List.take_length,if_neg h]
theorem ad7 (A:Au) (i:Nat) (x:Int) (k:Nat): -1≤hcI A i x k∧hcI A i x k≤(stI A i).length:=by
 unfold hcI
 split
 ·rename_i h
  have h1:clsI A x∈(stI A i).map (clsI A):=List.map_subset _ (List.take_subset _ _) h
  have h2:=List.idxOf_lt_length_of_mem h1
  rw [List.length_map] at h2
  omega
 ·omega
noncomputable abbrev d3_:Code:=Try.f26.body.getD .skip
theorem xu_ {cc:Code} (hsel:selC [1,1,1,1,1,0,1,2,2,1,0,2,0,1,2,2] d3_=some cc) (lr lt n fl i L k x y c d:Nat) (LR LB LT FU CU SC P0 P1 P2:List D) (q1:persL LR=true) (q2:persL LB=true) (q3:persL LT=true) (q4:persL FU=true) (q5:persL CU=true) (q6:persL SC=true) (p0:persL P0=true) (hl0:P0.length=n) (p1:persL P1=true) (hn:n≤512) (hL:L≤512) (hfl:fl≤512) (hi:i<fl) (hk:k<L) (hx:x<n) (hy:y<n) (hfx:partD false 1 (i*1) FU=some (.flat (.int .i64 ((x:Nat):Int)))) (hsy:partD false 1 (k*1) SC=some (.flat (.int .i64 ((y:Nat):Int)))) (hcx:partD false 1 (x*1) CU=some (.flat (.int .i64 ((c:Nat):Int)))) (hcy:partD false 1 (y*1) CU=some (.flat (.int .i64 ((d:Nat):Int))))
  (hP:List.take (x*1) P0++ [.flat (.int .i64 ((k:Nat):Int))]++List.drop (x*1+1) P0=P2) (h1:d=c→P2=P1) (h2:d≠c→P0=P1):
  DW Try.prog 269 cc ⟨[(1,.ref 1 0),(2,.ref 2 0),(4,.sl false 1 fl FU),(5,.sl false 1 n CU),(6,.own 601 L),(7,.own 32 n),(9,.flat (.int .i64 ((i:Nat):Int))),(10,.flat (.int .i64 ((k:Nat):Int)))],[(1,some (.box [.sl false 1 lr LR,.sl false 1 n LB,.sl false 1 lt LT])),(2,some (.box [.flat (.slice none 0 0),.flat (.slice none 0 0),.flat (.slice none 0 0)])),(601,some (.row 3 1 L SC)),(32,some (.row 3 1 n P0))]⟩ (Nm 269 ⟨[(1,.ref 1 0),(2,.ref 2 0),(4,.sl false 1 fl FU),(5,.sl false 1 n CU),(6,.own 601 L),(7,.own 32 n),(9,.flat (.int .i64 ((i:Nat):Int))),(10,.flat (.int .i64 (((k+1):Nat):Int)))],[(1,some (.box [.sl false 1 lr LR,.sl false 1 n LB,.sl false 1 lt LT])),(2,some (.box [.flat (.slice none 0 0),.flat (.slice none 0 0),.flat (.slice none 0 0)])),(601,some (.row 3 1 L SC)),(32,some (.row 3 1 n P1))]⟩):=by
 refine DW.sel hsel (by rfl) ?_
 by_cases e:d=c
 ·subst e
  clear h2
  obtain rfl:=h1 rfl
  refine DW.walk ?_
  rw [hP]
  exact Nm.mk Sub.auto
 ·obtain rfl:=h2 e
  clear h1 hP
  have hne:¬ ((d:Nat):Int)=((c:Nat):Int):=by omega
  refine DW.walk ?_
  exact Nm.mk Sub.auto
end Go.Proofs.Ytichhfbkhnimmaa
