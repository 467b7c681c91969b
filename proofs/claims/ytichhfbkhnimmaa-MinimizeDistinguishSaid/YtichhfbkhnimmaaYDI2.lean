/- A renumbered automaton stands in itself. No condition. -/
import Derived.Test.YtichhfbkhnimmaaYFO
import Derived.Test.YtichhfbkhnimmaaYD9
import Derived.Test.YtichhfbkhnimmaaYQB
import Derived.Test.YtichhfbkhnimmaaYQC2
import Derived.Test.YtichhfbkhnimmaaYPD
import Derived.Test.YtichhfbkhnimmaaYD7
import Derived.Test.YtichhfbkhnimmaaYE1
import Derived.Test.YtichhfbkhnimmaaYMI
import Derived.Test.YtichhfbkhnimmaaYFO4
import Derived.Test.YtichhfbkhnimmaaXQu
set_option linter.unusedSimpArgs false
set_option linter.unusedVariables false
set_option maxHeartbeats 4000000
set_option maxRecDepth 8000
namespace Go.Proofs.Ytichhfbkhnimmaa
open Go Go.RowKit Go.PP Go.Dm Go.Rt Go.Mn
theorem at_succ {A:Au} (hok:AuOk A) {i p:Nat} (hi:i<A.ranks.length) {ds:List Int} (hp:(placeOf A.final.length ds).toNat=p) (hpl:p<(rowN A i).length):atI A (i:Int) ds=((succN A i p:Nat):Int):=by
 obtain⟨h1,h2,h3⟩:=rowN_at hok hi
 have h4:=h3 p _ (List.getElem?_eq_getElem hpl)
 unfold atI
 rw [Int.toNat_natCast,hp]
 show (rowN A i).getD p 0=_
 rw [List.getD_eq_getElem?_getD,List.getElem?_eq_getElem hpl]
 exact h4.1
theorem table_at {n:Nat} {T:Int→List Int→Int} {i k p:Nat} (h:p<n ^ k):(tableOf n T i ((k:Nat):Int))[p]?=some (T i (digs n k p)):=by
 unfold tableOf wideN
 rw [Int.toNat_natCast,List.getElem?_map,List.getElem?_range h];rfl
theorem phi_idxN {l:List Int} {x:Int} (h:x∈l):l.getD ((l.idxOf x:Nat):Int).toNat 0=x:=by
 have:=phi_idx h
 rw [hasI_mem h] at this
 exact this
theorem iso_kept {A:Au} (hok:AuOk A) {l:List Int} (hall:∀ x:Nat,x<A.final.length→(x:Int)∈l) (hlen:l.length=A.final.length):Iso A (keptA A l) (fun x=>l.idxOf (x:Int)):=by
 have hlt:∀ x:Nat,x<A.final.length→l.idxOf (x:Int)<A.final.length:=fun x hx=>by
  have:=List.idxOf_lt_length_of_mem (hall x hx)
  omega
 have hto:∀ i k:Nat,A.ranks[i]?=some ((k:Nat):Int)→(keptA A l).to[i]?=some (tableOf l.length (keptT A l) i ((k:Nat):Int)):=fun i k h=>tables_get h
 have hgt:∀ (i:Nat) (ds:List Int) (s:Nat),atI A i (ds.map fun d=>l.getD d.toNat 0)=((s:Nat):Int)→s<A.final.length→keptT A l i ds=((l.idxOf ((s:Nat):Int):Nat):Int):=fun i ds s h hs=>by
  unfold keptT
  rw [h,hasI_mem (hall s hs)]
 refine⟨hlt,?_,fun i hi hr=>?_,fun i hi hr=>?_,fun i hi hr=>?_⟩
 ·show (tablesOf _ _ _).length=_
  rw [hok.len];simp [tablesOf]
 all_goals
  obtain⟨h1,h2,h3⟩:=rowN_at hok hi
  obtain⟨-,hrk⟩:=rankN_le hok hi
  rw [hr] at h2 hrk
  have hsl:∀ p,p<(rowN A i).length→succN A i p<A.final.length:=fun p hp=>(h3 p _ (List.getElem?_eq_getElem hp)).2
  refine⟨_,hto i _ hrk,?_⟩
 ·rw [table_at (by simp)]
  have h0:0<(rowN A i).length:=by rw [h2];simp
  rw [hgt i (digs l.length 0 0) (succN A i 0) (at_succ hok hi rfl h0) (hsl 0 h0)]
 ·intro p hp
  have h0:p<(rowN A i).length:=by rw [h2];simpa using hp
  rw [table_at (by rw [hlen];simpa using hlt p hp),digs_one (by rw [hlen];exact hlt p hp)]
  rw [hgt i _ (succN A i p) ?_ (hsl p h0)]
  rw [List.map_cons,List.map_nil,phi_idxN (hall p hp)]
  exact at_succ hok hi (by show (0*_+(p:Int)).toNat=p;omega) h0
 ·intro p hp
  have h0:p<(rowN A i).length:=by rw [h2,Nat.pow_two];exact hp
  have hn:0<A.final.length:=hok.lo
  have ha:p / A.final.length<A.final.length:=Nat.div_lt_of_lt_mul hp
  have hb:p % A.final.length<A.final.length:=Nat.mod_lt _ hn
  have hq1:=hlt _ ha
  have hq2:=hlt _ hb
  have hbig:l.idxOf ((p / A.final.length:Nat):Int)*A.final.length+l.idxOf ((p % A.final.length:Nat):Int)<A.final.length ^ 2:=by
   rw [Nat.pow_two]
   have:(l.idxOf ((p / A.final.length:Nat):Int)+1)*A.final.length≤A.final.length*A.final.length:=Nat.mul_le_mul_right _ hq1
   rw [Nat.succ_mul] at this
   omega
  have hd2:=digs_two (m:=l.length) (w:=l.idxOf ((p / A.final.length:Nat):Int)) (v:=l.idxOf ((p % A.final.length:Nat):Int)) (by omega) (by omega)
  rw [hlen] at hd2
  rw [hlen,table_at hbig,hd2]
  rw [hgt i _ (succN A i p) ?_ (hsl p h0)]
  rw [List.map_cons,List.map_cons,List.map_nil,phi_idxN (hall _ ha),phi_idxN (hall _ hb)]
  refine at_succ hok hi ?_ h0
  show ((0*_+((p / A.final.length:Nat):Int))*(A.final.length:Int)+((p % A.final.length:Nat):Int)).toNat=p
  have h5:(((p / A.final.length)*A.final.length+p % A.final.length:Nat):Int)=(0*(A.final.length:Int)+((p / A.final.length:Nat):Int))*(A.final.length:Int)+((p % A.final.length:Nat):Int):=by rw [Int.natCast_add,Int.natCast_mul,Int.zero_mul,Int.zero_add]
  rw [← h5,Int.toNat_natCast,Nat.mul_comm]
  exact Nat.div_add_mod p A.final.length
def mixU (A:Au) (j:Nat):List Int:=(List.range A.final.length).map fun s=>if s<j then leastTo A s else toQ A s
theorem mix_len (A:Au) (j:Nat):(mixU A j).length=A.final.length:=by simp [mixU]
theorem mix_get {A:Au} {j s:Nat} (h:s<A.final.length):(mixU A j)[s]?=some (if s<j then leastTo A s else toQ A s):=by simp [mixU,h]
theorem mix_zero (A:Au):mixU A 0=(List.range A.final.length).map (toQ A):=by simp [mixU]
theorem mix_all (A:Au):mixU A A.final.length=(List.range A.final.length).map (leastTo A):=by
 unfold mixU
 refine List.map_congr_left fun s hs=>?_
 rw [if_pos (List.mem_range.1 hs)]
theorem mix_set {A:Au} {j:Nat} (h:j<A.final.length):(mixU A j).set j (leastTo A j)=mixU A (j+1):=by
 refine List.ext_getElem? fun a=>?_
 rw [List.getElem?_set,mix_len]
 by_cases e:j=a
 ·subst e
  rw [if_pos rfl,if_pos h,mix_get h,if_pos (by omega)]
 ·rw [if_neg e]
  by_cases ha:a<A.final.length
  ·rw [mix_get ha,mix_get ha]
   by_cases h1:a<j
   ·rw [if_pos h1,if_pos (by omega)]
   ·rw [if_neg h1,if_neg (by omega)]
  ·rw [List.getElem?_eq_none (by rw [mix_len];omega),List.getElem?_eq_none (by rw [mix_len];omega)]
theorem mix_skip {A:Au} {j:Nat} (h:j<A.final.length) (he:toQ A j=leastTo A j):mixU A (j+1)=mixU A j:=by
 rw [← mix_set h,← he]
 refine List.ext_getElem? fun a=>?_
 rw [List.getElem?_set,mix_len]
 by_cases e:j=a
 ·subst e
  rw [if_pos rfl,if_pos h,mix_get h,if_neg (by omega)]
 ·rw [if_neg e]
theorem least_to {A:Au} (hk:chk A=0) {j:Nat} (hf:(j:Int)∈foundA A):∃ t:Nat,toQ A j=(t:Int)∧t<(repsA A).length∧leastTo A j=(((foundA (quoA A (repsA A))).idxOf (t:Int):Nat):Int):=by
 have hr:=repsA_ok (chk_ok hk)
 have h1:=idxC_lt hr hf
 refine⟨idxC A (repsA A) (j:Int),toQ_yes hf,h1,?_⟩
 unfold leastTo
 rw [if_pos hf,hasI_mem (quo_all hk hr h1)]
theorem least_d (A:Au) (hk:chk A=0):DFun Try.prog 59 [auD A] (.tup [auD (leastA A),.sl false 1 A.final.length (((List.range A.final.length).map (leastTo A)).map fun x=>D.flat (.int .i64 x))]):=by
 have hok:=chk_ok hk
 have hr:=repsA_ok hok
 have hq:=quotient_d A hk
 have hqk:=quo_chk hk hr
 have hqo:=chk_ok hqk
 have hql:(quoA A (repsA A)).final.length=(repsA A).length:=quo_len
 have hall:∀ x:Nat,x<(quoA A (repsA A)).final.length→(x:Int)∈foundA (quoA A (repsA A)):=fun x hx=>quo_all hk hr (by rw [hql] at hx;exact hx)
 have hft:=(found_perm hk hr)
 have hfl:(foundA (quoA A (repsA A))).length=(quoA A (repsA A)).final.length:=hft.len
 have htr:=trim_d (quoA A (repsA A)) (few_of hqo)
 rw [trimE_ok hqk] at htr
 have htk:chk (keptA (quoA A (repsA A)) (foundA (quoA A (repsA A))))=0:=least_chk hk
 have hfo:=follow_d (quoA A (repsA A)) (keptA (quoA A (repsA A)) (foundA (quoA A (repsA A)))) (fun x=>(foundA (quoA A (repsA A))).idxOf (x:Int)) hqo (chk_ok htk) (iso_kept hqo hall hfl) (by rw [kept_len,hfl]) hall
 have hle:leastA A=keptA (quoA A (repsA A)) (foundA (quoA A (repsA A))):=rfl
 rw [hle]
 have hnn:=hok.hi
 have hmm:=hr.len hok
 have hlt:=fun (j:Nat) (hf:(j:Int)∈foundA A)=>least_to hk hf
 have hno:∀ j:Nat,(j:Int) ∉ foundA A→toQ A j= -1∧leastTo A j= -1:=fun j h=>⟨toQ_no h,by unfold leastTo;rw [if_neg h]⟩
 have hTU:∀ t:Nat,t<(repsA A).length→partD false 1 (t*1) ((List.range (repsA A).length).map fun x=>D.flat (.int .i64 (((foundA (quoA A (repsA A))).idxOf ((x:Nat):Int):Nat):Int)))=some (.flat (.int .i64 (((foundA (quoA A (repsA A))).idxOf (t:Int):Nat):Int))):=fun t ht=>by
  have h:=part_i (l:=(List.range (repsA A).length).map fun x:Nat=>(((foundA (quoA A (repsA A))).idxOf ((x:Nat):Int):Nat):Int)) (i:=t) (x:=(((foundA (quoA A (repsA A))).idxOf (t:Int):Nat):Int)) (by simp [ht])
  rw [List.map_map] at h
  exact h
 rw [hql] at hfo
 have hTUp:persL ((List.range (repsA A).length).map fun x=>D.flat (.int .i64 (((foundA (quoA A (repsA A))).idxOf ((x:Nat):Int):Nat):Int)))=true:=persL_map (fun _=>rfl) _
 have hpI:=fun U:List Int=>pers_i U
 have hgetm:=fun (j:Nat) (h:j<A.final.length)=>part_i (mix_get (A:=A) (j:=j) (s:=j) h)
 have hset:=fun (j:Nat) (h:j<A.final.length)=>mix_set (A:=A) (j:=j) h
 have hskip:=fun (j:Nat) (h:j<A.final.length) (e:toQ A j=leastTo A j)=>mix_skip h e
 rw [← mix_zero] at hq
 rw [← mix_all]
 have hml:=fun j=>mix_len A j
 have q1:=pers_i A.ranks
 have q2:=pers_b A.final
 have q3:=pers_r A.to
 have hspl:∀ j,j<A.final.length→List.take (j*1) ((mixU A j).map fun x=>D.flat (.int .i64 x))++ [D.flat (.int .i64 (leastTo A j))]++List.drop (j*1+1) ((mixU A j).map fun x=>D.flat (.int .i64 x))=((mixU A (j+1)).map fun x=>D.flat (.int .i64 x)):=fun j hj=>by
  have h1:=splice_set (x:=D.flat (.int .i64 (leastTo A j))) (show j<((mixU A j).map fun x=>D.flat (.int .i64 x)).length by rw [List.length_map,mix_len];exact hj)
  unfold spliceD at h1
  rw [Nat.mul_one,← mix_set hj,List.map_set]
  exact h1
 have hmll:∀ j,((mixU A j).map fun x=>D.flat (.int .i64 x)).length=A.final.length:=fun j=>by rw [List.length_map,mix_len]
 have q4:=pers_i (quoA A (repsA A)).ranks
 have q5:=pers_b (quoA A (repsA A)).final
 have q6:=pers_r (quoA A (repsA A)).to
 have k1:=pers_i (keptA (quoA A (repsA A)) (foundA (quoA A (repsA A)))).ranks
 have k2:=pers_b (keptA (quoA A (repsA A)) (foundA (quoA A (repsA A)))).final
 have k3:=pers_r (keptA (quoA A (repsA A)) (foundA (quoA A (repsA A)))).to
 rw [auD_eq A] at*
 rw [auD_eq (quoA A (repsA A))] at hq htr hfo
 rw [auD_eq (keptA (quoA A (repsA A)) (foundA (quoA A (repsA A))))] at htr hfo ⊢
 generalize ((keptA (quoA A (repsA A)) (foundA (quoA A (repsA A)))).ranks.map fun x=>D.flat (.int .i64 x))=C1 at*
 generalize ((keptA (quoA A (repsA A)) (foundA (quoA A (repsA A)))).final.map fun x=>D.flat (.bool x))=C2 at*
 generalize rowsL (keptA (quoA A (repsA A)) (foundA (quoA A (repsA A)))).to=C3 at*
 generalize (keptA (quoA A (repsA A)) (foundA (quoA A (repsA A)))).ranks.length=c1 at*
 generalize (keptA (quoA A (repsA A)) (foundA (quoA A (repsA A)))).final.length=c2 at*
 generalize (keptA (quoA A (repsA A)) (foundA (quoA A (repsA A)))).to.length=c3 at*
 generalize ((quoA A (repsA A)).ranks.map fun x=>D.flat (.int .i64 x))=G1 at*
 generalize ((quoA A (repsA A)).final.map fun x=>D.flat (.bool x))=G2 at*
 generalize rowsL (quoA A (repsA A)).to=G3 at*
 generalize (quoA A (repsA A)).ranks.length=g1 at*
 generalize (quoA A (repsA A)).final.length=g2 at*
 generalize (quoA A (repsA A)).to.length=g3 at*
 generalize hTUe:((List.range (repsA A).length).map fun x=>D.flat (.int .i64 (((foundA (quoA A (repsA A))).idxOf ((x:Nat):Int):Nat):Int)))=TU at*
 generalize (repsA A).length=m at*
 generalize (A.ranks.map fun x=>D.flat (.int .i64 x))=LR at*
 generalize (A.final.map fun x=>D.flat (.bool x))=LB at*
 generalize rowsL A.to=LT at*
 generalize hnA:A.final.length=n at*
 have p00:=hpI (mixU A 0)
 generalize hM0:((mixU A 0).map fun x=>D.flat (.int .i64 x))=M0 at*
 refine DFun.enterA Try.func59 Try.ntmps59 ?_
 refine DW.walk ?_
 refine DW.loopA (fun j:Nat=>⟨[(2,.ref 2 0),(5,.own 38 n),(6,.ptr [.sl false 1 c1 C1,.sl false 1 c2 C2,.sl false 1 c3 C3] 0),(8,.sl false 1 m TU),(24,.own 38 n),(25,.flat (.int .i64 ((n:Nat):Int))),(26,.flat (.int .i64 ((j:Nat):Int)))],[(2,some (.box [.flat (.slice none 0 0),.flat (.slice none 0 0),.flat (.slice none 0 0)])),(38,some (.row 3 1 n ((mixU A j).map fun x=>D.flat (.int .i64 x))))]⟩) (fun j=>j≤n) (fun j=>n - j) 0 ?_ (Nat.zero_le _) (by show Sub _ _ ⟨[(2,.ref 2 0),(5,.own 38 n),(6,.ptr [.sl false 1 c1 C1,.sl false 1 c2 C2,.sl false 1 c3 C3] 0),(8,.sl false 1 m TU),(24,.own 38 n),(25,.flat (.int .i64 ((n:Nat):Int))),(26,.flat (.int .i64 ((0:Nat):Int)))],[(2,some (.box [.flat (.slice none 0 0),.flat (.slice none 0 0),.flat (.slice none 0 0)])),(38,some (.row 3 1 n ((mixU A 0).map fun x=>D.flat (.int .i64 x))))]⟩;rw [hM0];exact Sub.auto)
 intro j hj
 rcases Nat.lt_or_ge j n with hjl|hjg
 ·have hg:=hgetm j hjl
  rw [if_neg (by omega)] at hg
  have p0:=hpI (mixU A j)
  have p1:=hpI (mixU A (j+1))
  have hsp:=hspl j hjl
  have hl0:=hmll j
  by_cases hf:(j:Int)∈foundA A
  ·obtain⟨t,t1,t2,t3⟩:=hlt j hf
   have hv:=hTU t t2
   rw [t1] at hg
   rw [t3] at hsp
   generalize (((foundA (quoA A (repsA A))).idxOf (t:Int):Nat):Int)=v at*
   generalize hM1:((mixU A (j+1)).map fun x=>D.flat (.int .i64 x))=M1 at*
   generalize ((mixU A j).map fun x=>D.flat (.int .i64 x))=MJ at*
   clear hq htr hfo hlt hno hTU hpI hgetm hset hskip hspl hmll hall hft hfl hTUe
   refine DW.walk ?_
   rw [hsp]
   exact⟨j+1,by omega,by omega,by rw [hM1];exact Sub.auto⟩
  ·obtain⟨t1,t2⟩:=hno j hf
   have hs:=hskip j hjl (t1.trans t2.symm)
   rw [t1] at hg
   generalize hM1:((mixU A j).map fun x=>D.flat (.int .i64 x))=M1 at*
   clear hq htr hfo hlt hno hTU hpI hgetm hset hskip hspl hmll hall hft hfl hTUe
   refine DW.walk ?_
   exact⟨j+1,by omega,by omega,by rw [hs,hM1];exact Sub.auto⟩
 ·obtain rfl:n=j:=by omega
  have p0:=hpI (mixU A n)
  generalize ((mixU A n).map fun x=>D.flat (.int .i64 x))=MJ at*
  clear hq htr hfo hlt hno hTU hpI hgetm hset hskip hspl hmll hall hft hfl hTUe
  refine DW.walk ?_
  exact⟨.inr rfl,ResOk.cellTmpA [(38,some (.row 3 1 n MJ))] rfl rfl rfl TyI.ag TyI.sz rfl ⟨rfl,trivial⟩ (VwL.pers (by simp only [persL,pers,k1,k2,k3,Bool.and_self])) (Le.refl _) (Vw.own (.head _) (VwL.pers p0))⟩
theorem minimize_ok (A:Au) (hk:chk A=0):DFun Try.prog 24 [auD A] (.tup [auD (leastA A),.sl false 1 A.final.length (((List.range A.final.length).map (leastTo A)).map fun x=>D.flat (.int .i64 x)),.flat (.int .i64 0)]):=by
 have hc:=check_d A (few_of (chk_ok hk))
 rw [hk] at hc
 have hl:=least_d A hk
 have hp:=pers_i ((List.range A.final.length).map (leastTo A))
 generalize (((List.range A.final.length).map (leastTo A)).map fun x=>D.flat (.int .i64 x))=TO at*
 have q1:=pers_i A.ranks
 have q2:=pers_b A.final
 have q3:=pers_r A.to
 rw [auD_eq A] at hc hl ⊢
 generalize (A.ranks.map fun x=>D.flat (.int .i64 x))=LR at*
 generalize (A.final.map fun x=>D.flat (.bool x))=LB at*
 generalize rowsL A.to=LT at*
 generalize A.ranks.length=lr at*
 generalize A.final.length=lb at*
 generalize A.to.length=lt at*
 have k1:=pers_i (leastA A).ranks
 have k2:=pers_b (leastA A).final
 have k3:=pers_r (leastA A).to
 rw [auD_eq (leastA A)] at hl ⊢
 generalize ((leastA A).ranks.map fun x=>D.flat (.int .i64 x))=MR at*
 generalize ((leastA A).final.map fun x=>D.flat (.bool x))=MB at*
 generalize rowsL (leastA A).to=MT at*
 generalize (leastA A).ranks.length=mr at*
 generalize (leastA A).final.length=mb at*
 generalize (leastA A).to.length=mt at*
 refine DFun.enterA Try.func24 Try.ntmps24 ?_
 refine DW.walk ?_
 exact⟨.inr rfl,ResOk.cellTmp2 [] rfl rfl rfl TyI.ag TyI.sz rfl rfl rfl trivial (Vw.agg (VwL.pers (show persL [.sl false 1 mr MR,.sl false 1 mb MB,.sl false 1 mt MT]=true from (by simp only [persL,pers,k1,k2,k3,Bool.and_self])))) (Vw.pers rfl) (Vw.pers rfl)⟩
theorem key_way {x y:Int} (hx0: -1000000000≤x) (hx1:x≤1000000000) (hy0: -1000000000≤y) (hy1:y≤1000000000):∃ l,keyOf Try.prog 101 (kvP x y)=some l:=by
  have hF:fieldsOf (Try.prog.underlying 101)=some ([(3,0),(3,1)],true):=by kernel_rfl
  have hc:Try.prog.cellsOf 101=2:=by kernel_rfl
  have hc2:Try.prog.cellsOf 3=1:=by kernel_rfl
  have hu2:Try.prog.underlying 3=some (.int .i64):=by kernel_rfl
  have hk:Try.prog.keyType 101=true:=by kernel_rfl
  have hx:=i64_wf hx0 hx1
  have hy:=i64_wf hy0 hy1
  obtain⟨n,hn⟩:=types_size
  have hu:∃ fs,Try.prog.underlying 101=some (.struct fs)∧fs.toList.map (fun f=>(f.type,f.offset))=[(3,0),(3,1)]∧fs.all (·.name != "_")=true:=by
    generalize Try.prog.underlying 101=u at hF
    unfold fieldsOf at hF
    split at hF
    · rename_i fs
      simp only [Option.some.injEq,Prod.mk.injEq] at hF
      exact⟨fs,rfl,hF.1,hF.2⟩
    ·cases hF
  obtain⟨fs,hu,hf,hall⟩:=hu
  obtain ⟨f0,f1,hfs,e0,e1,e2,e3⟩:∃ f0 f1,fs.toList=[f0,f1]∧f0.type=3∧f0.offset=0∧f1.type=3∧f1.offset=1:=by
    generalize fs.toList=q at hf
    cases q with
    |nil=>simp at hf
    | cons f0 r=>
      cases r with
      |nil=>simp at hf
      | cons f1 r2=>
        cases r2 with
        | nil=>
          simp only [List.map_cons,List.map_nil,List.cons.injEq,Prod.mk.injEq,and_true] at hf
          exact⟨f0,f1,rfl,hf.1.1,hf.1.2,hf.2.1,hf.2.2⟩
        |cons f2 r3=>simp at hf
  have hl:Try.prog.keyLits (n+2) 101 [Value.int .i64 x,Value.int .i64 y]=some [.int .i64 x,.int .i64 y]:=by
    have hi:∀ z:Int,(Lit.int .i64 z).wf=true→Try.prog.keyLits (n+1) 3 [Value.int .i64 z]=some [.int .i64 z]:=fun z hz=>by
      unfold Program.keyLits
      simp only [hu2,hz,and_self,if_true]
    rw [Program.keyLits.eq_def]
    simp only [hu,hc,List.length_cons,List.length_nil,hall,and_self,if_true,hfs]
    simp [e0,e1,e2,e3,hc2,hi x hx,hi y hy]
  refine⟨.string (keyBytes [.int .i64 x,.int .i64 y]),?_⟩
  unfold keyOf
  rw [hu]
  simp only [hk,hn,kvP,Value.formed,hu,hc,Value.cells,Bool.true_and,List.size_toArray,List.length_cons,List.length_nil,hl,decide_true,beq_self_eq_true,if_true,Option.map_some]
theorem keyed_way:Maps.Keyed Try.prog 101:=Maps.Keyed.of_law (deep_law_laid (by kernel_rfl) (m:=2) (by decide) (by decide +kernel) (by kernel_rfl) (by kernel_rfl))
def ksW (W:List Go.Mn.Way):List Value:=W.map fun w=>kvP w.p w.q
def dsW (W:List Go.Mn.Way):List D:=W.map fun _=>D.flat (.bool true)
def wayC (A:Au) (w:Go.Mn.Way):List D:=[.flat (.int .i64 w.p),.flat (.int .i64 w.q),.sl false 3 w.l.length (spC (wordS A w.l))]
def waysC (A:Au) (W:List Go.Mn.Way):List D:=W.flatMap (wayC A)
theorem waysC_pers (A:Au) (W:List Go.Mn.Way):persL (waysC A W)=true:=persL_flat (fun w=>by simp [wayC,persL,pers,spC_pers]) W
theorem waysC_snoc (A:Au) (W:List Go.Mn.Way) (w:Go.Mn.Way):waysC A (W++ [w])=waysC A W++wayC A w:=by simp [waysC]
theorem waysC_len (A:Au):∀ W:List Go.Mn.Way,(waysC A W).length=W.length*3
 | []=>rfl
 |w::W=>by
  have:=waysC_len A W
  unfold waysC at*
  rw [List.flatMap_cons,List.length_append,this,List.length_cons]
  simp only [wayC,List.length_cons,List.length_nil]
  omega
theorem waysC_drop (A:Au) (w:Go.Mn.Way) (W:List Go.Mn.Way):(waysC A (w::W)).drop (1*3)=waysC A W:=by
 unfold waysC
 rw [List.flatMap_cons]
 rfl
theorem waysC_get (A:Au) (w:Go.Mn.Way) (W:List Go.Mn.Way):partD true 3 (0*3) (waysC A (w::W))=some (.agg (wayC A w)):=by
 unfold partD
 rw [if_pos rfl,if_pos (by rw [waysC_len,List.length_cons];omega)]
 unfold waysC
 rw [List.flatMap_cons]
 rfl
structure WOk (A:Au) (W:List Go.Mn.Way):Prop where
 nd:(W.map Go.Mn.Way.pr).Nodup
 rng:∀ w∈W,InA A w.p∧InA A w.q
theorem ksW_ok {A:Au} (hok:AuOk A) {W:List Go.Mn.Way} (h:WOk A W):KeysOk Try.prog 101 (ksW W):=by
 refine⟨keyed_way,fun v hv=>?_,?_⟩
 ·obtain⟨w,hw,rfl⟩:=List.mem_map.1 hv
  obtain⟨⟨a,b⟩,c,d⟩:=h.rng w hw
  have:=hok.hi
  exact key_way (by omega) (by omega) (by omega) (by omega)
 ·have h1:=h.nd
  unfold ksW
  rw [List.nodup_iff_pairwise_ne,List.pairwise_map] at h1 ⊢
  exact h1.imp fun hne e=>hne (Prod.ext (kvP_inj e).1 (kvP_inj e).2)
theorem lookW_in {A:Au} (hok:AuOk A) {W:List Go.Mn.Way} (h:WOk A W) {x y:Int} (hm:(x,y)∈W.map Go.Mn.Way.pr):∃ i,LookT Try.prog 101 (ksW W) (kvP x y) i∧(dsW W)[i]?=some (D.flat (.bool true)):=by
 obtain⟨w,hw,e⟩:=List.mem_map.1 hm
 obtain⟨i,hi⟩:=List.getElem?_of_mem hw
 have e1:w.p=x:=congrArg Prod.fst e
 have e2:w.q=y:=congrArg Prod.snd e
 refine⟨i,⟨ksW_ok hok h,?_⟩,?_⟩
 ·unfold ksW
  rw [List.getElem?_map,hi,← e1,← e2];rfl
 ·unfold dsW
  rw [List.getElem?_map,hi];rfl
theorem lookW_no {A:Au} (hok:AuOk A) {W:List Go.Mn.Way} (h:WOk A W) {x y:Int} (hx:InA A x) (hy:InA A y) (hm:(x,y) ∉ W.map Go.Mn.Way.pr):LookN Try.prog 101 (ksW W) (kvP x y):=by
 obtain⟨a,b⟩:=hx
 obtain⟨c,d⟩:=hy
 have:=hok.hi
 refine⟨ksW_ok hok h,key_way (by omega) (by omega) (by omega) (by omega),fun hk=>hm ?_⟩
 obtain⟨w,hw,e⟩:=List.mem_map.1 hk
 exact List.mem_map.2 ⟨w,hw,Prod.ext (kvP_inj e).1 (kvP_inj e).2⟩
theorem ksW_snoc (W:List Go.Mn.Way) (w:Go.Mn.Way):ksW (W++ [w])=ksW W++ [kvP w.p w.q]∧dsW (W++ [w])=dsW W++ [D.flat (.bool true)]:=by simp [ksW,dsW]
theorem cloneS_d (l:List D) (n:Nat) (hl:l.length=n*3) (hp:persL l=true) (ho:oneL l=true) (hn:n≤1000000):DLend Try.prog 56 [.sl false 3 n l] [(777,none)] [(777,some (.row 50 3 n l))] (.own 777 n):=by
 have h5:=IdAt.of 5 777
 by_cases h0:n=0
 ·subst h0
  obtain rfl:l=[]:=List.eq_nil_of_length_eq_zero (by omega)
  refine DLend.enterA Try.func56 Try.ntmps56 ?_
  refine DW.adj ?_
  refine DW.flatten 0 rfl ?_
  intro a cap
  cases a with
  |none=>
   refine DW.walk ?_
   exact⟨_,Sub.adoptA h5 2 50 3,.inr rfl,ResL.oneA⟩
  |some a=>
   refine DW.walk ?_
   exact⟨_,Sub.refl _ _,.inr rfl,ResL.oneA⟩
 ·have:0<n:=by omega
  refine DLend.enterA Try.func56 Try.ntmps56 ?_
  refine DW.walk ?_
  exact⟨.inr rfl,ResL.oneA⟩
noncomputable abbrev code20:Code:=Try.f20.body.getD .skip
theorem di_eq {cc:Code} (hsel:selC [1,1,1,1,1,0,1,2,2,1,0,2,1,1,1,2,2] code20=some cc) (LR LB LT SC WL QC DS:List D) (KS:List Value) (n nR nT m i wl L:Nat) (p q sy sa so x y:Int) (hm:m≤5000000) (hi:i<m) (hwl:wl≤1000000) (hL:L≤1000000) (p1:persL LR=true) (p2:persL LB=true) (p3:persL LT=true) (p4:persL SC=true) (p5:persL WL=true) (p6:persL QC=true) (p7:persL DS=true) (hs:partD true 3 (i*3) SC=some (.agg [.flat (.int .i64 sy),.flat (.int .i64 sa),.flat (.int .i64 so)])) (hx:DFun Try.prog 55 [.agg [.flat (.int .i64 sy),.flat (.int .i64 sa),.flat (.int .i64 so)],.agg [.sl false 1 nR LR,.sl false 1 n LB,.sl false 1 nT LT],.flat (.int .i64 p)] (.flat (.int .i64 x))) (hy:DFun Try.prog 55 [.agg [.flat (.int .i64 sy),.flat (.int .i64 sa),.flat (.int .i64 so)],.agg [.sl false 1 nR LR,.sl false 1 n LB,.sl false 1 nT LT],.flat (.int .i64 q)] (.flat (.int .i64 y))) (he:x=y):
  DW Try.prog 122 cc ⟨[(3,.ptr [.sl false 1 nR LR,.sl false 1 n LB,.sl false 1 nT LT] 0),(11,.sl false 3 m SC),(12,.mp 44),(13,.own 700 L),(14,.ref 14 0),(79,.sl false 3 m SC),(80,.flat (.int .i64 ((m:Nat):Int))),(81,.flat (.int .i64 ((i:Nat):Int)))],[(44,some (.box (.keys (KS)::DS))),(700,some (.row 104 3 L QC)),(14,some (.box [.flat (.int .i64 p),.flat (.int .i64 q),.sl false 3 wl WL]))]⟩ (Nm 122 ⟨[(3,.ptr [.sl false 1 nR LR,.sl false 1 n LB,.sl false 1 nT LT] 0),(11,.sl false 3 m SC),(12,.mp 44),(13,.own 700 L),(14,.ref 14 0),(79,.sl false 3 m SC),(80,.flat (.int .i64 ((m:Nat):Int))),(81,.flat (.int .i64 (((i+1):Nat):Int)))],[(44,some (.box (.keys (KS)::DS))),(700,some (.row 104 3 L QC)),(14,some (.box [.flat (.int .i64 p),.flat (.int .i64 q),.sl false 3 wl WL]))]⟩):=by
 refine DW.sel hsel (by rfl) ?_
 subst he
 refine DW.walk ?_
 exact Nm.mk Sub.auto
theorem di_in {cc:Code} (hsel:selC [1,1,1,1,1,0,1,2,2,1,0,2,1,1,1,2,2] code20=some cc) (LR LB LT SC WL QC DS:List D) (KS:List Value) (n nR nT m i wl L:Nat) (p q sy sa so x y:Int) (hm:m≤5000000) (hi:i<m) (hwl:wl≤1000000) (hL:L≤1000000) (p1:persL LR=true) (p2:persL LB=true) (p3:persL LT=true) (p4:persL SC=true) (p5:persL WL=true) (p6:persL QC=true) (p7:persL DS=true) (hs:partD true 3 (i*3) SC=some (.agg [.flat (.int .i64 sy),.flat (.int .i64 sa),.flat (.int .i64 so)])) (hx:DFun Try.prog 55 [.agg [.flat (.int .i64 sy),.flat (.int .i64 sa),.flat (.int .i64 so)],.agg [.sl false 1 nR LR,.sl false 1 n LB,.sl false 1 nT LT],.flat (.int .i64 p)] (.flat (.int .i64 x))) (hy:DFun Try.prog 55 [.agg [.flat (.int .i64 sy),.flat (.int .i64 sa),.flat (.int .i64 so)],.agg [.sl false 1 nR LR,.sl false 1 n LB,.sl false 1 nT LT],.flat (.int .i64 q)] (.flat (.int .i64 y))) (he:¬ x=y) (k:Nat) (hT:LookT Try.prog 101 KS (kvP x y) k) (hk:DS[k]?=some (D.flat (.bool true))):
  DW Try.prog 122 cc ⟨[(3,.ptr [.sl false 1 nR LR,.sl false 1 n LB,.sl false 1 nT LT] 0),(11,.sl false 3 m SC),(12,.mp 44),(13,.own 700 L),(14,.ref 14 0),(79,.sl false 3 m SC),(80,.flat (.int .i64 ((m:Nat):Int))),(81,.flat (.int .i64 ((i:Nat):Int)))],[(44,some (.box (.keys (KS)::DS))),(700,some (.row 104 3 L QC)),(14,some (.box [.flat (.int .i64 p),.flat (.int .i64 q),.sl false 3 wl WL]))]⟩ (Nm 122 ⟨[(3,.ptr [.sl false 1 nR LR,.sl false 1 n LB,.sl false 1 nT LT] 0),(11,.sl false 3 m SC),(12,.mp 44),(13,.own 700 L),(14,.ref 14 0),(79,.sl false 3 m SC),(80,.flat (.int .i64 ((m:Nat):Int))),(81,.flat (.int .i64 (((i+1):Nat):Int)))],[(44,some (.box (.keys (KS)::DS))),(700,some (.row 104 3 L QC)),(14,some (.box [.flat (.int .i64 p),.flat (.int .i64 q),.sl false 3 wl WL]))]⟩):=by
 refine DW.sel hsel (by rfl) ?_
 have hIs:=isV_pair x y
 refine DW.walk ?_
 exact Nm.mk Sub.auto
theorem di_new {cc:Code} (hsel:selC [1,1,1,1,1,0,1,2,2,1,0,2,1,1,1,2,2] code20=some cc) (LR LB LT SC WL QC DS:List D) (KS:List Value) (n nR nT m i wl L:Nat) (p q sy sa so x y:Int) (hm:m≤5000000) (hi:i<m) (hwl:wl≤1000000) (hL:L≤1000000) (p1:persL LR=true) (p2:persL LB=true) (p3:persL LT=true) (p4:persL SC=true) (p5:persL WL=true) (p6:persL QC=true) (p7:persL DS=true) (hs:partD true 3 (i*3) SC=some (.agg [.flat (.int .i64 sy),.flat (.int .i64 sa),.flat (.int .i64 so)])) (hx:DFun Try.prog 55 [.agg [.flat (.int .i64 sy),.flat (.int .i64 sa),.flat (.int .i64 so)],.agg [.sl false 1 nR LR,.sl false 1 n LB,.sl false 1 nT LT],.flat (.int .i64 p)] (.flat (.int .i64 x))) (hy:DFun Try.prog 55 [.agg [.flat (.int .i64 sy),.flat (.int .i64 sa),.flat (.int .i64 so)],.agg [.sl false 1 nR LR,.sl false 1 n LB,.sl false 1 nT LT],.flat (.int .i64 q)] (.flat (.int .i64 y))) (he:¬ x=y) (hN:LookN Try.prog 101 KS (kvP x y)) (KS2:List Value) (DS2 QC2:List D) (hK2:KS++ [kvP x y]=KS2) (hD2:DS++ [D.flat (.bool true)]=DS2) (hQ2:QC++ [.flat (.int .i64 x),.flat (.int .i64 y),.sl false 3 (wl+1) (WL++ [.flat (.int .i64 sy),.flat (.int .i64 sa),.flat (.int .i64 so)])]=QC2) (p8:persL QC2=true) (p9:persL DS2=true) (hc:DLend Try.prog 56 [.sl false 3 wl WL] [(777,none)] [(777,some (.row 50 3 wl WL))] (.own 777 wl)) (hWn:persL (WL++ [.flat (.int .i64 sy),.flat (.int .i64 sa),.flat (.int .i64 so)])=true):
  DW Try.prog 122 cc ⟨[(3,.ptr [.sl false 1 nR LR,.sl false 1 n LB,.sl false 1 nT LT] 0),(11,.sl false 3 m SC),(12,.mp 44),(13,.own 700 L),(14,.ref 14 0),(79,.sl false 3 m SC),(80,.flat (.int .i64 ((m:Nat):Int))),(81,.flat (.int .i64 ((i:Nat):Int)))],[(44,some (.box (.keys (KS)::DS))),(700,some (.row 104 3 L QC)),(14,some (.box [.flat (.int .i64 p),.flat (.int .i64 q),.sl false 3 wl WL]))]⟩ (Nm 122 ⟨[(3,.ptr [.sl false 1 nR LR,.sl false 1 n LB,.sl false 1 nT LT] 0),(11,.sl false 3 m SC),(12,.mp 44),(13,.own 700 (L+1)),(14,.ref 14 0),(79,.sl false 3 m SC),(80,.flat (.int .i64 ((m:Nat):Int))),(81,.flat (.int .i64 (((i+1):Nat):Int)))],[(44,some (.box (.keys (KS2)::DS2))),(700,some (.row 104 3 (L+1) QC2)),(14,some (.box [.flat (.int .i64 p),.flat (.int .i64 q),.sl false 3 wl WL]))]⟩):=by
 refine DW.sel hsel (by rfl) ?_
 have hIs:=isV_pair x y
 refine DW.walkTo 21 ?_
 rw [hK2,hD2]
 refine DW.regD rfl (by kernel_rfl) ?_
 refine DC.isOp ?_
 apply DC.is_move
 refine DC.k_move ?_
 refine DC.isOp ?_
 apply DC.is_load
 refine DC.k_load ?_
 refine DC.isOp ?_
 apply DC.is_fieldAddr
 refine DC.k_fieldAddr ?_
 refine DC.isOp ?_
 apply DC.is_load
 refine DC.k_load ?_
 refine DC.isOp ?_
 apply DC.is_callv
 refine DC.k_callv ?_
 refine DC.isOp ?_
 apply DC.is_load
 refine DC.k_load ?_
 refine DC.isOp ?_
 apply DC.is_buildSlice
 refine DC.k_buildSlice ?_
 refine DC.t (T.appendGive _ _ _ TySl.h TyIn.h rfl (by decide) (by decide) Le.full rfl (by omega) hWn) ⟨rfl,rfl,trivial⟩ ⟨rfl,trivial⟩ ?_
 refine DC.walk ?_
 rw [hQ2]
 exact Nm.mk Sub.auto
end Go.Proofs.Ytichhfbkhnimmaa
