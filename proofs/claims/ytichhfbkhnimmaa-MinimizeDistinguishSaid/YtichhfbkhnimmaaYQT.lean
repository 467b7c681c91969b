/- The quotient, its tables. No condition. -/
import Derived.Test.YtichhfbkhnimmaaYFO
import Derived.Test.YtichhfbkhnimmaaYD9
import Derived.Test.YtichhfbkhnimmaaYQC2
set_option linter.unusedSimpArgs false
set_option linter.unusedVariables false
set_option maxHeartbeats 4000000
set_option maxRecDepth 8000
namespace Go.Proofs.Ytichhfbkhnimmaa
open Go Go.RowKit Go.PP Go.Dm Go.Rt Go.Mn
theorem qtail_d {cc:Code} (hsel:selC [1,1,1,1,1,1,1,1,1] code99=some cc) (A:Au) (hk:chk A=0) (LF:List D) (pLF:persL LF=true):
  DW Try.prog 188 cc ⟨[(1,.ptr [.sl false 1 A.ranks.length (A.ranks.map fun x=>D.flat (.int .i64 x)),.sl false 1 A.final.length (A.final.map fun x=>D.flat (.bool x)),.sl false 1 A.ranks.length (rowsL A.to)] 0),(2,.ref 2 0),(5,.sl false 1 A.final.length LF),(8,.own 38 A.final.length),(9,.sl false 1 (repsA A).length ((repsA A).map fun x=>D.flat (.int .i64 x))),(16,.ref 16 0)],[(2,some (.box [.flat (.slice none 0 0),.flat (.slice none 0 0),.flat (.slice none 0 0)])),(38,some (.row 3 1 A.final.length (((List.range A.final.length).map (toQ A)).map fun x=>D.flat (.int .i64 x)))),(16,some (.box [.sl false 1 A.ranks.length (A.ranks.map fun x=>D.flat (.int .i64 x)),.own 111 (repsA A).length,.own 112 0])),(111,some (.row 4 1 (repsA A).length (((List.range (repsA A).length).map (qF A (repsA A))).map fun x=>D.flat (.bool x)))),(112,some (.row 22 1 0 []))]⟩ (fun e s=>(e= .normal∨e= .ret)∧ResL Try.prog Try.f99 188 s [(38,some (.row 3 1 A.final.length (((List.range A.final.length).map (toQ A)).map fun x=>D.flat (.int .i64 x))))] (.tup [auD (quoA A (repsA A)),.own 38 A.final.length])):=by
 have hok:=chk_ok hk
 have hnn:=hok.hi
 have hlo:=hok.lo
 have hTl:A.to.length=A.ranks.length:=hok.len
 have hrkl:A.ranks.length≤4096:=hok.alpha.hi
 have hm5:(repsA A).length≤512:=Nat.le_trans ((repsA_ok hok).len hok) hnn
 have q1:=pers_i A.ranks
 have q2:=pers_b A.final
 have q3:=pers_r A.to
 have u0:=pers_i (repsA A)
 have t0:=pers_i ((List.range A.final.length).map (toQ A))
 have v0:=pers_b ((List.range (repsA A).length).map (qF A (repsA A)))
 have hpRr:=fun t:List (List Int)=>pers_r t
 have hRp:∀ (i:Nat) (x:Int),(repsA A)[i]?=some x→partD false 1 (i*1) ((repsA A).map fun x=>D.flat (.int .i64 x))=some (.flat (.int .i64 x)):=fun i x h=>part_i h
 have hRf:∀ i,i<(repsA A).length→ ∃ t:Nat,(repsA A)[i]?=some (t:Int)∧t<A.final.length:=fun i h=>by
  have hx:(repsA A)[i]?=some (repsA A)[i]:=by simp
  have hm:=(repsA_ok hok).found _ (List.mem_of_getElem? hx)
  obtain⟨x0,x1⟩:=found_in hok hm
  obtain⟨t,ht⟩:=Int.eq_ofNat_of_zero_le x0
  exact⟨t,by rw [hx,ht],by omega⟩
 have hRK:∀ (t:Nat) (b:Int),A.ranks[t]?=some b→partD false 1 (t*1) (A.ranks.map fun x=>D.flat (.int .i64 x))=some (.flat (.int .i64 b)):=fun t b h=>part_i h
 have hTO:∀ (t:Nat) (b:List Int),A.to[t]?=some b→partD false 1 (t*1) (rowsL A.to)=some (.sl false 1 b.length (b.map fun x=>D.flat (.int .i64 x))):=fun t b h=>part_r h
 have hTTp:∀ q,q<A.final.length→partD false 1 (q*1) (((List.range A.final.length).map (toQ A)).map fun x=>D.flat (.int .i64 x))=some (.flat (.int .i64 (toQ A q))):=fun q hq=>part_i (by simp [hq])
 have hsn:∀ (i:Nat) (k:Int),A.ranks[i]?=some k→rowsL ((tablesOf (repsA A).length (qT A (repsA A)) A.ranks).take (i+1))=rowsL ((tablesOf (repsA A).length (qT A (repsA A)) A.ranks).take i)++ [.sl false 1 (tableOf (repsA A).length (qT A (repsA A)) i k).length ((tableOf (repsA A).length (qT A (repsA A)) i k).map fun x=>D.flat (.int .i64 x))]:=fun i k h=>rows_snoc (tables_get h)
 have hfew:=few_of hok
 have e1:auD (quoA A (repsA A))= .agg [.sl false 1 A.ranks.length (A.ranks.map fun x=>D.flat (.int .i64 x)),.sl false 1 (repsA A).length (((List.range (repsA A).length).map (qF A (repsA A))).map fun x=>D.flat (.bool x)),.sl false 1 A.ranks.length (rowsL (tablesOf (repsA A).length (qT A (repsA A)) A.ranks))]:=by
  rw [auD_eq]
  unfold quoA madeA
  simp only [List.length_map,List.length_range]
  rw [show (tablesOf (repsA A).length (qT A (repsA A)) A.ranks).length=A.ranks.length by simp [tablesOf]]
 have etk:(tablesOf (repsA A).length (qT A (repsA A)) A.ranks).take A.ranks.length=tablesOf (repsA A).length (qT A (repsA A)) A.ranks:=List.take_of_length_le (by simp [tablesOf])
 have er0:∀ T:List (List Int),rowsL (T.take 0)=[]:=fun T=>rfl
 have c0:=fun (y:Nat) (h:A.ranks[y]?=some ((0:Nat):Int))=>cell_0 hok h (repsA A).length
 have c1:=fun (y:Nat) (h:A.ranks[y]?=some ((1:Nat):Int)) (P t:Nat) (ht:(repsA A)[P]?=some (t:Int))=>cell_1 hok h ht
 have c2:=fun (y:Nat) (h:A.ranks[y]?=some ((2:Nat):Int)) (w v t u:Nat) (ht:(repsA A)[w]?=some (t:Int)) (hu:(repsA A)[v]?=some (u:Int))=>cell_2 hok h ht hu
 have hrk:∀ (i:Nat) (x:Int),A.ranks[i]?=some x→ ∃ k:Nat,x=(k:Int)∧k≤2:=fun i x h=>rank_nat hok h
 rw [e1]
 obtain⟨m,hm⟩:∃ m,(repsA A).length=m:=⟨_,rfl⟩
 obtain⟨n,hn⟩:∃ n,A.final.length=n:=⟨_,rfl⟩
 rw [hm] at hm5 hRf hsn c0 c1 c2 etk v0 e1 ⊢
 rw [hn] at hnn hlo hRf hTTp c2 t0 ⊢
 generalize hRRe:((repsA A).map fun x=>D.flat (.int .i64 x))=RR at*
 generalize (((List.range n).map (toQ A)).map fun x=>D.flat (.int .i64 x))=TT at*
 generalize (((List.range m).map (qF A (repsA A))).map fun x=>D.flat (.bool x))=FQ at*
 generalize (A.ranks.map fun x=>D.flat (.int .i64 x))=LR at*
 generalize (A.final.map fun x=>D.flat (.bool x))=LB at*
 generalize rowsL A.to=LT at*
 refine DW.sel hsel (by rfl) ?_
 refine DW.walk ?_
 refine DW.loopA (fun y:Nat=>⟨[(1,.ptr [.sl false 1 A.ranks.length LR,.sl false 1 n LB,.sl false 1 A.ranks.length LT] 0),(2,.ref 2 0),(5,.sl false 1 n LF),(8,.own 38 n),(9,.sl false 1 m RR),(16,.ref 16 0),(102,.sl false 1 A.ranks.length LR),(103,.flat (.int .i64 ((A.ranks.length:Nat):Int))),(104,.flat (.int .i64 ((y:Nat):Int)))],[(2,some (.box [.flat (.slice none 0 0),.flat (.slice none 0 0),.flat (.slice none 0 0)])),(38,some (.row 3 1 n TT)),(16,some (.box [.sl false 1 A.ranks.length LR,.own 111 m,.own 112 y])),(111,some (.row 4 1 m FQ)),(112,some (.row 22 1 y (rowsL ((tablesOf m (qT A (repsA A)) A.ranks).take y))))]⟩) (fun y=>y≤A.ranks.length) (fun y=>A.ranks.length - y) 0 ?_ (Nat.zero_le _) (by rw [er0];exact Sub.auto)
 intro y hy
 rcases Nat.lt_or_ge y A.ranks.length with hyl|hyg
 ·obtain ⟨x,hx⟩:∃ x,A.ranks[y]?=some x:=⟨A.ranks[y],by simp⟩
  obtain⟨k,rfl,hk2⟩:=hrk y x hx
  have hpk:=hRK y _ hx
  have hs:=hsn y _ hx
  have w0:=hpRr ((tablesOf m (qT A (repsA A)) A.ranks).take y)
  have w1:=hpRr ((tablesOf m (qT A (repsA A)) A.ranks).take (y+1))
  rcases (show k=0∨k=1∨k=2 by omega) with rfl|rfl|rfl
  ·obtain⟨row,q,e1,e2,e3,e4,e5⟩:=c0 y hx
   have htab:tableOf m (qT A (repsA A)) y ((0:Nat):Int)=[toQ A q]:=by rw [e5];simp [tableOf,wideN]
   rw [htab] at hs
   have hG:=hs.symm
   refine (q0_d (by rfl) LR LB LT LF RR TT FQ _ _ n A.ranks.length m y row.length ⟨hlo,hnn⟩ hm5 hrkl hyl e4 q1 q2 q3 pLF u0 t0 v0 w0 (pers_i row) (hTO y row e1) hpk _ q (List.getElem?_eq_some_iff.1 e2).1 (part_i e2) (by omega) (hTTp q (by omega)) _ hG w1).mono ?_
   rintro e s' ⟨rfl,hsub⟩
   exact⟨y+1,by omega,by omega,hsub⟩
  ·obtain⟨row,e1⟩:∃ row,A.to[y]?=some row:=⟨A.to[y]'(by omega),by simp⟩
   have htl:(tableOf m (qT A (repsA A)) y ((1:Nat):Int)).length=m:=by simp [tableOf,wideN]
   have htab:((tableOf m (qT A (repsA A)) y ((1:Nat):Int)).map fun x=>D.flat (.int .i64 x))=(List.range m).map fun p=>D.flat (.int .i64 (qT A (repsA A) y (digs m 1 p))):=by simp [tableOf,wideN,List.map_map,Function.comp_def]
   rw [htl,htab] at hs
   have hG:=hs.symm
   refine (q1_d (by rfl) LR LB LT LF RR TT FQ _ _ n A.ranks.length m y row.length ⟨hlo,hnn⟩ hm5 hrkl hyl (hfew.l row (List.mem_of_getElem? e1)) q1 q2 q3 pLF u0 t0 v0 w0 (pers_i row) (hTO y row e1) hpk (fun p=>qT A (repsA A) y (digs m 1 p)) (fun P hP=>?_) _ hG w1).mono ?_
   ·    obtain⟨t,ht,htn⟩:=hRf P hP
        obtain⟨row',q,d1,d2,d3,d4,d5⟩:=c1 y hx P t ht
        rw [e1] at d1
        cases d1
        exact⟨t,q,hRp P _ ht,(List.getElem?_eq_some_iff.1 d2).1,part_i d2,by omega,by rw [← d5];exact hTTp q (by omega)⟩
   ·    rintro e s' ⟨rfl,hsub⟩
        exact⟨y+1,by omega,by omega,hsub⟩
  ·obtain⟨row,e1⟩:∃ row,A.to[y]?=some row:=⟨A.to[y]'(by omega),by simp⟩
   have hw2:wideN ((2:Nat):Int) m=m*m:=by simp [wideN,Nat.pow_two]
   have htl:(tableOf m (qT A (repsA A)) y ((2:Nat):Int)).length=m*m:=by simp only [tableOf,List.length_map,List.length_range,hw2]
   have  htab:((tableOf m (qT A (repsA A)) y ((2:Nat):Int)).map fun x=>D.flat (.int .i64 x))=(List.range (m*m)).map fun p=>D.flat (.int .i64 (qT A (repsA A) y (digs m 2 p))):=by
        unfold tableOf
        rw [hw2,List.map_map];rfl
   rw [htl,htab] at hs
   have hG:=hs.symm
   refine (q2_d (by rfl) LR LB LT LF RR TT FQ _ _ n A.ranks.length m y row.length ⟨hlo,hnn⟩ hm5 hrkl hyl (hfew.l row (List.mem_of_getElem? e1)) q1 q2 q3 pLF u0 t0 v0 w0 (pers_i row) (hTO y row e1) hpk (fun p=>qT A (repsA A) y (digs m 2 p)) (fun w hw=>?_) (fun w u t t' hw hu ht ht'=>?_) _ hG w1).mono ?_
   ·    obtain⟨t,ht,htn⟩:=hRf w hw
        refine⟨t,hRp w _ ht,?_,htn⟩
        have h2:((t*n:Nat):Int)≤((512*512:Nat):Int):=Int.ofNat_le.2 (Nat.mul_le_mul (by omega) hnn)
        rw [Int.natCast_mul] at h2
        omega
   ·    obtain⟨tw,htw,_⟩:=hRf w hw
        obtain⟨tu,htu,_⟩:=hRf u hu
        have z1:=hRp w _ htw
        rw [ht] at z1
        have z2:=hRp u _ htu
        rw [ht'] at z2
        simp only [Option.some.injEq,D.flat.injEq,Value.int.injEq,true_and] at z1 z2
        have z1:t=tw:=by omega
        have z2:t'=tu:=by omega
        subst z1;subst z2
        obtain⟨row',q,d1,d2,d3,d4,d5⟩:=c2 y hx w u t t' htw htu
        rw [e1] at d1
        cases d1
        exact⟨q,(List.getElem?_eq_some_iff.1 d2).1,part_i d2,by omega,by rw [← d5];exact hTTp q (by omega)⟩
   ·    rintro e s' ⟨rfl,hsub⟩
        exact⟨y+1,by omega,by omega,hsub⟩
 ·obtain rfl:A.ranks.length=y:=by omega
  rw [etk]
  have w0:=hpRr (tablesOf m (qT A (repsA A)) A.ranks)
  generalize rowsL (tablesOf m (qT A (repsA A)) A.ranks)=TB at*
  clear hsn hRf c0 c1 c2 hRK hTO hTTp hRp hrk
  refine DW.walkTo 48 ?_
  refine DW.sub (s':=⟨[(2,.ref 2 0),(8,.own 38 n),(16,.ref 16 0)],[(2,some (.box [.flat (.slice none 0 0),.flat (.slice none 0 0),.flat (.slice none 0 0)])),(38,some (.row 3 1 n TT)),(16,some (.box [.sl false 1 A.ranks.length LR,.sl false 1 m FQ,.sl false 1 A.ranks.length TB]))]⟩) Sub.auto ?_
  refine DW.walk ?_
  exact⟨.inr rfl,ResL.ptrTmp (f':=[(2,.ptr [.sl false 1 A.ranks.length LR,.sl false 1 m FQ,.sl false 1 A.ranks.length TB] 0),(3,.own 38 n)]) rfl EsOk.auto (FsOk.cons (Vs.shutRef' rfl rfl rfl rfl (by simp only [persL,pers,q1,v0,w0,Bool.and_self]) rfl) (FsOk.cons (Vs.own' rfl rfl rfl rfl) trivial)) rfl rfl TyI.ag TyI.sz⟩
end Go.Proofs.Ytichhfbkhnimmaa
