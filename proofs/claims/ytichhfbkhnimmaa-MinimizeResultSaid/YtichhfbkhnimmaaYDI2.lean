/- A renumbered automaton stands in itself. No condition. -/
import Derived.Test.YtichhfbkhnimmaaYQB
set_option linter.unusedSimpArgs false
set_option linter.unusedVariables false
set_option maxHeartbeats 4000000
set_option maxRecDepth 8000
namespace Go.Proofs.Ytichhfbkhnimmaa
open Go Go.RowKit Go.PP Go.Dm Go.Rt Go.Mn
theorem oz_ {A:Au} (hok:AuOk A) {i p:Nat} (hi:i<A.r.length) {ds:List Int} (hp:(a0_ A.f.length ds).toNat=p) (hpl:p<(rowN A i).length):atI A (i:Int) ds=((succN A i p:Nat):Int):=by
 obtain⟨h1,h2,h3⟩:=jj_ hok hi
 have h4:=h3 p _ (List.getElem?_eq_getElem hpl)
 unfold atI
 rw [Int.toNat_natCast,hp]
 show (rowN A i).getD p 0=_
 rw [List.getD_eq_getElem?_getD,List.getElem?_eq_getElem hpl]
 exact h4.1
theorem hy_ {n:Nat} {T:Int→List Int→Int} {i k p:Nat} (h:p<n ^ k):(az_ n T i ((k:Nat):Int))[p]?=some (T i (digs n k p)):=by
 unfold az_ ba_
 rw [Int.toNat_natCast,List.getElem?_map,List.getElem?_range h];rfl
theorem mh_ {l:List Int} {x:Int} (h:x∈l):l.getD ((l.idxOf x:Nat):Int).toNat 0=x:=by
 have:=t6_ h
 rw [bz_ h] at this
 exact this
theorem v0_ {A:Au} (hok:AuOk A) {l:List Int} (hall:∀ x:Nat,x<A.f.length→(x:Int)∈l) (hlen:l.length=A.f.length):Iso A (aw_ A l) (fun x=>l.idxOf (x:Int)):=by
 have hlt:∀ x:Nat,x<A.f.length→l.idxOf (x:Int)<A.f.length:=fun x hx=>by
  have:=List.idxOf_lt_length_of_mem (hall x hx)
  omega
 have hto:∀ i k:Nat,A.r[i]?=some ((k:Nat):Int)→(aw_ A l).to[i]?=some (az_ l.length (cu_ A l) i ((k:Nat):Int)):=fun i k h=>er_ h
 have hgt:∀ (i:Nat) (ds:List Int) (s:Nat),atI A i (ds.map fun d=>l.getD d.toNat 0)=((s:Nat):Int)→s<A.f.length→cu_ A l i ds=((l.idxOf ((s:Nat):Int):Nat):Int):=fun i ds s h hs=>by
  unfold cu_
  rw [h,bz_ (hall s hs)]
 refine⟨hlt,?_,fun i hi hr=>?_,fun i hi hr=>?_,fun i hi hr=>?_⟩
 ·show (aj_ _ _ _).length=_
  rw [hok.len];simp [aj_]
 all_goals
  obtain⟨h1,h2,h3⟩:=jj_ hok hi
  obtain⟨-,hrk⟩:=h4_ hok hi
  rw [hr] at h2 hrk
  have hsl:∀ p,p<(rowN A i).length→succN A i p<A.f.length:=fun p hp=>(h3 p _ (List.getElem?_eq_getElem hp)).2
  refine⟨_,hto i _ hrk,?_⟩
 ·rw [hy_ (by simp)]
  have h0:0<(rowN A i).length:=by rw [h2];simp
  rw [hgt i (digs l.length 0 0) (succN A i 0) (oz_ hok hi rfl h0) (hsl 0 h0)]
 ·intro p hp
  have h0:p<(rowN A i).length:=by rw [h2];simpa using hp
  rw [hy_ (by rw [hlen];simpa using hlt p hp),h1_ (by rw [hlen];exact hlt p hp)]
  rw [hgt i _ (succN A i p) ?_ (hsl p h0)]
  rw [List.map_cons,List.map_nil,mh_ (hall p hp)]
  exact oz_ hok hi (by show (0*_+(p:Int)).toNat=p;omega) h0
 ·intro p hp
  have h0:p<(rowN A i).length:=by rw [h2,Nat.pow_two];exact hp
  have hn:0<A.f.length:=hok.lo
  have ha:p / A.f.length<A.f.length:=Nat.div_lt_of_lt_mul hp
  have hb:p % A.f.length<A.f.length:=Nat.mod_lt _ hn
  have hq1:=hlt _ ha
  have hq2:=hlt _ hb
  have hbig:l.idxOf ((p / A.f.length:Nat):Int)*A.f.length+l.idxOf ((p % A.f.length:Nat):Int)<A.f.length ^ 2:=by
   rw [Nat.pow_two]
   have:(l.idxOf ((p / A.f.length:Nat):Int)+1)*A.f.length≤A.f.length*A.f.length:=Nat.mul_le_mul_right _ hq1
   rw [Nat.succ_mul] at this
   omega
  have hd2:=l3_ (m:=l.length) (w:=l.idxOf ((p / A.f.length:Nat):Int)) (v:=l.idxOf ((p % A.f.length:Nat):Int)) (by omega) (by omega)
  rw [hlen] at hd2
  rw [hlen,hy_ hbig,hd2]
  rw [hgt i _ (succN A i p) ?_ (hsl p h0)]
  rw [List.map_cons,List.map_cons,List.map_nil,mh_ (hall _ ha),mh_ (hall _ hb)]
  refine oz_ hok hi ?_ h0
  show ((0*_+((p / A.f.length:Nat):Int))*(A.f.length:Int)+((p % A.f.length:Nat):Int)).toNat=p
  have h5:(((p / A.f.length)*A.f.length+p % A.f.length:Nat):Int)=(0*(A.f.length:Int)+((p / A.f.length:Nat):Int))*(A.f.length:Int)+((p % A.f.length:Nat):Int):=by rw [Int.natCast_add,Int.natCast_mul,Int.zero_mul,Int.zero_add]
  rw [← h5,Int.toNat_natCast,Nat.mul_comm]
  exact Nat.div_add_mod p A.f.length
def mixU (A:Au) (j:Nat):List Int:=(List.range A.f.length).map fun s=>if s<j then a3_ A s else toQ A s
theorem gd_ (A:Au) (j:Nat):(mixU A j).length=A.f.length:=by simp [mixU]
theorem jh_ {A:Au} {j s:Nat} (h:s<A.f.length):(mixU A j)[s]?=some (if s<j then a3_ A s else toQ A s):=by simp [mixU,h]
theorem vu_ (A:Au):mixU A 0=(List.range A.f.length).map (toQ A):=by simp [mixU]
theorem xz_ (A:Au):mixU A A.f.length=(List.range A.f.length).map (a3_ A):=by
 unfold mixU
 refine List.map_congr_left fun s hs=>?_
 rw [if_pos (List.mem_range.1 hs)]
theorem oq_ {A:Au} {j:Nat} (h:j<A.f.length):(mixU A j).set j (a3_ A j)=mixU A (j+1):=by
 refine List.ext_getElem? fun a=>?_
 rw [List.getElem?_set,gd_]
 by_cases e:j=a
 ·subst e
  rw [if_pos rfl,if_pos h,jh_ h,if_pos (by omega)]
 ·rw [if_neg e]
  by_cases ha:a<A.f.length
  ·rw [jh_ ha,jh_ ha]
   by_cases h1:a<j
   ·rw [if_pos h1,if_pos (by omega)]
   ·rw [if_neg h1,if_neg (by omega)]
  ·rw [List.getElem?_eq_none (by rw [gd_];omega),List.getElem?_eq_none (by rw [gd_];omega)]
theorem u8_ {A:Au} {j:Nat} (h:j<A.f.length) (he:toQ A j=a3_ A j):mixU A (j+1)=mixU A j:=by
 rw [← oq_ h,← he]
 refine List.ext_getElem? fun a=>?_
 rw [List.getElem?_set,gd_]
 by_cases e:j=a
 ·subst e
  rw [if_pos rfl,if_pos h,jh_ h,if_neg (by omega)]
 ·rw [if_neg e]
theorem ua_ {A:Au} (hk:chk A=0) {j:Nat} (hf:(j:Int)∈ac_ A):∃ t:Nat,toQ A j=(t:Int)∧t<(ah_ A).length∧a3_ A j=(((ac_ (quoA A (ah_ A))).idxOf (t:Int):Nat):Int):=by
 have hr:=b5_ (a4_ hk)
 have h1:=ex_ hr hf
 refine⟨idxC A (ah_ A) (j:Int),o3_ hf,h1,?_⟩
 unfold a3_
 rw [if_pos hf,bz_ (lz_ hk hr h1)]
theorem yv_ (A:Au) (hk:chk A=0):DFun Try.prog 59 [auD A] (.tup [auD (aq_ A),.sl false 1 A.f.length (((List.range A.f.length).map (a3_ A)).map fun x=>D.flat (.int .i64 x))]):=by
 have hok:=a4_ hk
 have hr:=b5_ hok
 have hq:=qv_ A hk
 have hqk:=j3_ hk hr
 have hqo:=a4_ hqk
 have hql:(quoA A (ah_ A)).f.length=(ah_ A).length:=e1_
 have hall:∀ x:Nat,x<(quoA A (ah_ A)).f.length→(x:Int)∈ac_ (quoA A (ah_ A)):=fun x hx=>lz_ hk hr (by rw [hql] at hx;exact hx)
 have hft:=(hc_ hk hr)
 have hfl:(ac_ (quoA A (ah_ A))).length=(quoA A (ah_ A)).f.length:=hft.len
 have htr:=aat (quoA A (ah_ A)) (bs_ hqo)
 rw [pp_ hqk] at htr
 have htk:chk (aw_ (quoA A (ah_ A)) (ac_ (quoA A (ah_ A))))=0:=gs_ hk
 have hfo:=u0_ (quoA A (ah_ A)) (aw_ (quoA A (ah_ A)) (ac_ (quoA A (ah_ A)))) (fun x=>(ac_ (quoA A (ah_ A))).idxOf (x:Int)) hqo (a4_ htk) (v0_ hqo hall hfl) (by rw [gr_,hfl]) hall
 have hle:aq_ A=aw_ (quoA A (ah_ A)) (ac_ (quoA A (ah_ A))):=rfl
 rw [hle]
 have hnn:=hok.hi
 have hmm:=hr.len hok
 have hlt:=fun (j:Nat) (hf:(j:Int)∈ac_ A)=>ua_ hk hf
 have hno:∀ j:Nat,(j:Int) ∉ ac_ A→toQ A j= -1∧a3_ A j= -1:=fun j h=>⟨w9_ h,by unfold a3_;rw [if_neg h]⟩
 have hTU:∀ t:Nat,t<(ah_ A).length→partD false 1 (t*1) ((List.range (ah_ A).length).map fun x=>D.flat (.int .i64 (((ac_ (quoA A (ah_ A))).idxOf ((x:Nat):Int):Nat):Int)))=some (.flat (.int .i64 (((ac_ (quoA A (ah_ A))).idxOf (t:Int):Nat):Int))):=fun t ht=>by
  have h:=as_ (l:=(List.range (ah_ A).length).map fun x:Nat=>(((ac_ (quoA A (ah_ A))).idxOf ((x:Nat):Int):Nat):Int)) (i:=t) (x:=(((ac_ (quoA A (ah_ A))).idxOf (t:Int):Nat):Int)) (by simp [ht])
  rw [List.map_map] at h
  exact h
 rw [hql] at hfo
 have hTUp:persL ((List.range (ah_ A).length).map fun x=>D.flat (.int .i64 (((ac_ (quoA A (ah_ A))).idxOf ((x:Nat):Int):Nat):Int)))=true:=af_ (fun _=>rfl) _
 have hpI:=fun U:List Int=>ad_ U
 have hgetm:=fun (j:Nat) (h:j<A.f.length)=>as_ (jh_ (A:=A) (j:=j) (s:=j) h)
 have hset:=fun (j:Nat) (h:j<A.f.length)=>oq_ (A:=A) (j:=j) h
 have hskip:=fun (j:Nat) (h:j<A.f.length) (e:toQ A j=a3_ A j)=>u8_ h e
 rw [← vu_] at hq
 rw [← xz_]
 have hml:=fun j=>gd_ A j
 have q1:=ad_ A.r
 have q2:=ai_ A.f
 have q3:=al_ A.to
 have hspl:∀ j,j<A.f.length→List.take (j*1) ((mixU A j).map fun x=>D.flat (.int .i64 x))++ [D.flat (.int .i64 (a3_ A j))]++List.drop (j*1+1) ((mixU A j).map fun x=>D.flat (.int .i64 x))=((mixU A (j+1)).map fun x=>D.flat (.int .i64 x)):=fun j hj=>by
  have h1:=bk_ (x:=D.flat (.int .i64 (a3_ A j))) (show j<((mixU A j).map fun x=>D.flat (.int .i64 x)).length by rw [List.length_map,gd_];exact hj)
  unfold spliceD at h1
  rw [Nat.mul_one,← oq_ hj,List.map_set]
  exact h1
 have hmll:∀ j,((mixU A j).map fun x=>D.flat (.int .i64 x)).length=A.f.length:=fun j=>by rw [List.length_map,gd_]
 have q4:=ad_ (quoA A (ah_ A)).r
 have q5:=ai_ (quoA A (ah_ A)).f
 have q6:=al_ (quoA A (ah_ A)).to
 have k1:=ad_ (aw_ (quoA A (ah_ A)) (ac_ (quoA A (ah_ A)))).r
 have k2:=ai_ (aw_ (quoA A (ah_ A)) (ac_ (quoA A (ah_ A)))).f
 have k3:=al_ (aw_ (quoA A (ah_ A)) (ac_ (quoA A (ah_ A)))).to
 rw [au_ A] at*
 rw [au_ (quoA A (ah_ A))] at hq htr hfo
 rw [au_ (aw_ (quoA A (ah_ A)) (ac_ (quoA A (ah_ A))))] at htr hfo ⊢
 generalize ((aw_ (quoA A (ah_ A)) (ac_ (quoA A (ah_ A)))).r.map fun x=>D.flat (.int .i64 x))=C1 at*
 generalize ((aw_ (quoA A (ah_ A)) (ac_ (quoA A (ah_ A)))).f.map fun x=>D.flat (.bool x))=C2 at*
 generalize ag_ (aw_ (quoA A (ah_ A)) (ac_ (quoA A (ah_ A)))).to=C3 at*
 generalize (aw_ (quoA A (ah_ A)) (ac_ (quoA A (ah_ A)))).r.length=c1 at*
 generalize (aw_ (quoA A (ah_ A)) (ac_ (quoA A (ah_ A)))).f.length=c2 at*
 generalize (aw_ (quoA A (ah_ A)) (ac_ (quoA A (ah_ A)))).to.length=c3 at*
 generalize ((quoA A (ah_ A)).r.map fun x=>D.flat (.int .i64 x))=G1 at*
 generalize ((quoA A (ah_ A)).f.map fun x=>D.flat (.bool x))=G2 at*
 generalize ag_ (quoA A (ah_ A)).to=G3 at*
 generalize (quoA A (ah_ A)).r.length=g1 at*
 generalize (quoA A (ah_ A)).f.length=g2 at*
 generalize (quoA A (ah_ A)).to.length=g3 at*
 generalize hTUe:((List.range (ah_ A).length).map fun x=>D.flat (.int .i64 (((ac_ (quoA A (ah_ A))).idxOf ((x:Nat):Int):Nat):Int)))=TU at*
 generalize (ah_ A).length=m at*
 generalize (A.r.map fun x=>D.flat (.int .i64 x))=LR at*
 generalize (A.f.map fun x=>D.flat (.bool x))=LB at*
 generalize ag_ A.to=LT at*
 generalize hnA:A.f.length=n at*
 have p00:=hpI (mixU A 0)
 generalize hM0:((mixU A 0).map fun x=>D.flat (.int .i64 x))=M0 at*
 refine DFun.enterA Try.func59 Try.ntmps59 ?_
 refine DW.walk ?_
 refine DW.loopA (fun j:Nat=>⟨[(2,.ref 2 0),(5,.own 38 n),(6,.ptr [.sl false 1 c1 C1,.sl false 1 c2 C2,.sl false 1 c3 C3] 0),(8,.sl false 1 m TU),(24,.own 38 n),(25,.flat (.int .i64 ((n:Nat):Int))),(26,.flat (.int .i64 ((j:Nat):Int)))],[(2,some (.box [.flat (.slice none 0 0),.flat (.slice none 0 0),.flat (.slice none 0 0)])),(38,some (.row 3 1 n ((mixU A j).map fun x=>D.flat (.int .i64 x))))]⟩) (fun j=>j≤n) (fun j=>n - j) 0 ?_ (Nat.zero_le _) (by show Sub _ _ ⟨[(2,.ref 2 0),(5,.own 38 n),(6,.ptr [.sl false 1 c1 C1,.sl false 1 c2 C2,.sl false 1 c3 C3] 0),(8,.sl false 1 m TU),(24,.own 38 n),(25,.flat (.int .i64 ((n:Nat):Int))),(26,.flat (.int .i64 ((0:Nat):Int)))],[(2,some (.box [.flat (.slice none 0 0),.flat (.slice none 0 0),.flat (.slice none 0 0)])),(38,some (.row 3 1 n ((mixU A 0).map fun x=>D.flat (.int .i64 x))))]⟩;rw [hM0];exact Sub.auto)
 intro j hj
 rcases Nat.lt_or_ge j n with hjl|hjg
 ·have hg:=hgetm j hjl
  rw [if_neg (by omega)] at hg
  have p0:=hpI (mixU A j)
  have p1:=hpI (mixU A (j+1))
  have hsp:=hspl j hjl
  have hl0:=hmll j
  by_cases hf:(j:Int)∈ac_ A
  ·obtain⟨t,t1,t2,t3⟩:=hlt j hf
   have hv:=hTU t t2
   rw [t1] at hg
   rw [t3] at hsp
   generalize (((ac_ (quoA A (ah_ A))).idxOf (t:Int):Nat):Int)=v at*
   generalize hM1:((mixU A (j+1)).map fun x=>D.flat (.int .i64 x))=M1 at*
   generalize ((mixU A j).map fun x=>D.flat (.int .i64 x))=MJ at*
   clear hq htr hfo hlt hno hTU hpI hgetm hset hskip hspl hmll hall hft hfl hTUe
   refine DW.walk ?_
   rw [hsp]
   exact⟨j+1,by omega,by omega,by rw [hM1];exact Sub.auto⟩
  ·obtain⟨t1,t2⟩:=hno j hf
   have hs:=hskip j hjl (t1.trans t2.symm)
   rw [t1] at hg
   generalize hM1:((mixU A j).map fun x=>D.flat (.int .i64 x))=M1 at*
   clear hq htr hfo hlt hno hTU hpI hgetm hset hskip hspl hmll hall hft hfl hTUe
   refine DW.walk ?_
   exact⟨j+1,by omega,by omega,by rw [hs,hM1];exact Sub.auto⟩
 ·obtain rfl:n=j:=by omega
  have p0:=hpI (mixU A n)
  generalize ((mixU A n).map fun x=>D.flat (.int .i64 x))=MJ at*
  clear hq htr hfo hlt hno hTU hpI hgetm hset hskip hspl hmll hall hft hfl hTUe
  refine DW.walk ?_
  exact⟨.inr rfl,ResOk.cellTmpA [(38,some (.row 3 1 n MJ))] rfl rfl rfl TyI.ag TyI.sz rfl ⟨rfl,trivial⟩ (VwL.pers (by simp only [persL,pers,k1,k2,k3,Bool.and_self])) (Le.refl _) (Vw.own (.head _) (VwL.pers p0))⟩
theorem f6_ (A:Au) (hk:chk A=0):DFun Try.prog 24 [auD A] (.tup [auD (aq_ A),.sl false 1 A.f.length (((List.range A.f.length).map (a3_ A)).map fun x=>D.flat (.int .i64 x)),.flat (.int .i64 0)]):=by
 have hc:=g7_ A (bs_ (a4_ hk))
 rw [hk] at hc
 have hl:=yv_ A hk
 have hp:=ad_ ((List.range A.f.length).map (a3_ A))
 generalize (((List.range A.f.length).map (a3_ A)).map fun x=>D.flat (.int .i64 x))=TO at*
 have q1:=ad_ A.r
 have q2:=ai_ A.f
 have q3:=al_ A.to
 rw [au_ A] at hc hl ⊢
 generalize (A.r.map fun x=>D.flat (.int .i64 x))=LR at*
 generalize (A.f.map fun x=>D.flat (.bool x))=LB at*
 generalize ag_ A.to=LT at*
 generalize A.r.length=lr at*
 generalize A.f.length=lb at*
 generalize A.to.length=lt at*
 have k1:=ad_ (aq_ A).r
 have k2:=ai_ (aq_ A).f
 have k3:=al_ (aq_ A).to
 rw [au_ (aq_ A)] at hl ⊢
 generalize ((aq_ A).r.map fun x=>D.flat (.int .i64 x))=MR at*
 generalize ((aq_ A).f.map fun x=>D.flat (.bool x))=MB at*
 generalize ag_ (aq_ A).to=MT at*
 generalize (aq_ A).r.length=mr at*
 generalize (aq_ A).f.length=mb at*
 generalize (aq_ A).to.length=mt at*
 refine DFun.enterA Try.func24 Try.ntmps24 ?_
 refine DW.walk ?_
 exact⟨.inr rfl,ResOk.cellTmp2 [] rfl rfl rfl TyI.ag TyI.sz rfl rfl rfl trivial (Vw.agg (VwL.pers (show persL [.sl false 1 mr MR,.sl false 1 mb MB,.sl false 1 mt MT]=true from (by simp only [persL,pers,k1,k2,k3,Bool.and_self])))) (Vw.pers rfl) (Vw.pers rfl)⟩
theorem hl_ (A:Au) (hfew:Few A) (hk:chk A≠0):DFun Try.prog 24 [auD A] (.tup [.agg [.sl false 1 0 [],.sl false 1 0 [],.sl false 1 0 []],.sl false 1 0 [],.flat (.int .i64 (((chk A):Nat):Int))]):=by
 have hc:=g7_ A hfew
 have hne:((chk A:Nat):Int)≠0:=by omega
 generalize chk A=ck at*
 have q1:=ad_ A.r
 have q2:=ai_ A.f
 have q3:=al_ A.to
 rw [au_ A] at hc ⊢
 generalize (A.r.map fun x=>D.flat (.int .i64 x))=LR at*
 generalize (A.f.map fun x=>D.flat (.bool x))=LB at*
 generalize ag_ A.to=LT at*
 generalize A.r.length=lr at*
 generalize A.f.length=lb at*
 generalize A.to.length=lt at*
 refine DFun.enterA Try.func24 Try.ntmps24 ?_
 refine DW.walk ?_
 exact⟨.inr rfl,ResOk.cellTmp2 [] rfl rfl rfl TyI.ag TyI.sz rfl rfl rfl trivial (Vw.agg (.cons (Vw.p rfl Le.empty) (.cons (Vw.p rfl Le.empty) (.cons (Vw.p rfl Le.empty) .nil)))) (Vw.p rfl Le.empty) (Vw.pers rfl)⟩
theorem pt_ (A:Au) (hk:chk A=0):DFun Try.prog 25 [auD A] (.flat (.bool (eqB A (aq_ A)))):=by
 have hm:=f6_ A hk
 have he:=yc_ A (aq_ A) (bs_ (a4_ hk)) (bs_ (a4_ (gs_ hk)))
 have hp:=ad_ ((List.range A.f.length).map (a3_ A))
 generalize (((List.range A.f.length).map (a3_ A)).map fun x=>D.flat (.int .i64 x))=TO at*
 generalize eqB A (aq_ A)=eb at*
 have q1:=ad_ A.r
 have q2:=ai_ A.f
 have q3:=al_ A.to
 rw [au_ A] at hm he ⊢
 generalize (A.r.map fun x=>D.flat (.int .i64 x))=LR at*
 generalize (A.f.map fun x=>D.flat (.bool x))=LB at*
 generalize ag_ A.to=LT at*
 generalize A.r.length=lr at*
 generalize A.f.length=lb at*
 generalize A.to.length=lt at*
 have k1:=ad_ (aq_ A).r
 have k2:=ai_ (aq_ A).f
 have k3:=al_ (aq_ A).to
 rw [au_ (aq_ A)] at hm he
 generalize ((aq_ A).r.map fun x=>D.flat (.int .i64 x))=MR at*
 generalize ((aq_ A).f.map fun x=>D.flat (.bool x))=MB at*
 generalize ag_ (aq_ A).to=MT at*
 generalize (aq_ A).r.length=mr at*
 generalize (aq_ A).f.length=mb at*
 generalize (aq_ A).to.length=mt at*
 refine DFun.enterA Try.func25 Try.ntmps25 ?_
 refine DW.walk ?_
 exact⟨.inr rfl,ResOk.one [] rfl rfl trivial (Vw.pers rfl)⟩
theorem s2_ (A:Au) (hfew:Few A) (hk:chk A≠0):DFun Try.prog 25 [auD A] (.flat (.bool false)):=by
 have hm:=hl_ A hfew hk
 have hne:((chk A:Nat):Int)≠0:=by omega
 generalize chk A=ck at*
 have q1:=ad_ A.r
 have q2:=ai_ A.f
 have q3:=al_ A.to
 rw [au_ A] at hm ⊢
 generalize (A.r.map fun x=>D.flat (.int .i64 x))=LR at*
 generalize (A.f.map fun x=>D.flat (.bool x))=LB at*
 generalize ag_ A.to=LT at*
 generalize A.r.length=lr at*
 generalize A.f.length=lb at*
 generalize A.to.length=lt at*
 refine DFun.enterA Try.func25 Try.ntmps25 ?_
 refine DW.walk ?_
 exact⟨.inr rfl,ResOk.one [] rfl rfl trivial (Vw.pers rfl)⟩
theorem t4_ {x y:Int} (hx0: -1000000000≤x) (hx1:x≤1000000000) (hy0: -1000000000≤y) (hy1:y≤1000000000):∃ l,keyOf Try.prog 101 (kvP x y)=some l:=by
  have hF:hs_ (Try.prog.underlying 101)=some ([(3,0),(3,1)],true):=by kernel_rfl
  have hc:Try.prog.cellsOf 101=2:=by kernel_rfl
  have hc2:Try.prog.cellsOf 3=1:=by kernel_rfl
  have hu2:Try.prog.underlying 3=some (.int .i64):=by kernel_rfl
  have hk:Try.prog.keyType 101=true:=by kernel_rfl
  have hx:=p5_ hx0 hx1
  have hy:=p5_ hy0 hy1
  obtain⟨n,hn⟩:=ko_
  have hu:∃ fs,Try.prog.underlying 101=some (.struct fs)∧fs.toList.map (fun f=>(f.type,f.offset))=[(3,0),(3,1)]∧fs.all (·.name != "_")=true:=by
    generalize Try.prog.underlying 101=u at hF
    unfold hs_ at hF
    split at hF
    · rename_i fs
      simp only [Option.some.injEq,Prod.mk.injEq] at hF
      exact⟨fs,rfl,hF.1,hF.2⟩
    ·cases hF
  obtain⟨fs,hu,hf,hall⟩:=hu
  obtain ⟨f0,f1,hfs,e0,e1,e2,e3⟩:∃ f0 f1,fs.toList=[f0,f1]∧f0.type=3∧f0.offset=0∧f1.type=3∧f1.offset=1:=by
    generalize fs.toList=q at hf
    cases q with
    |nil=>simp at hf
    | cons f0 r=>
      cases r with
      |nil=>simp at hf
      | cons f1 r2=>
        cases r2 with
        | nil=>
          simp only [List.map_cons,List.map_nil,List.cons.injEq,Prod.mk.injEq,and_true] at hf
          exact⟨f0,f1,rfl,hf.1.1,hf.1.2,hf.2.1,hf.2.2⟩
        |cons f2 r3=>simp at hf
  have hl:Try.prog.keyLits (n+2) 101 [Value.int .i64 x,Value.int .i64 y]=some [.int .i64 x,.int .i64 y]:=by
    have hi:∀ z:Int,(Lit.int .i64 z).wf=true→Try.prog.keyLits (n+1) 3 [Value.int .i64 z]=some [.int .i64 z]:=fun z hz=>by
      unfold Program.keyLits
      simp only [hu2,hz,and_self,if_true]
    rw [Program.keyLits.eq_def]
    simp only [hu,hc,List.length_cons,List.length_nil,hall,and_self,if_true,hfs]
    simp [e0,e1,e2,e3,hc2,hi x hx,hi y hy]
  refine⟨.string (keyBytes [.int .i64 x,.int .i64 y]),?_⟩
  unfold keyOf
  rw [hu]
  simp only [hk,hn,kvP,Value.formed,hu,hc,Value.cells,Bool.true_and,List.size_toArray,List.length_cons,List.length_nil,hl,decide_true,beq_self_eq_true,if_true,Option.map_some]
theorem rv_:Maps.Keyed Try.prog 101:=Maps.Keyed.of_law (deep_law_laid (by kernel_rfl) (m:=2) (by decide) (by decide +kernel) (by kernel_rfl) (by kernel_rfl))
def ksW (W:List Go.Mn.Way):List Value:=W.map fun w=>kvP w.p w.q
def dsW (W:List Go.Mn.Way):List D:=W.map fun _=>D.flat (.bool true)
def wayC (A:Au) (w:Go.Mn.Way):List D:=[.flat (.int .i64 w.p),.flat (.int .i64 w.q),.sl false 3 w.l.length (spC (bd_ A w.l))]
def cg_ (A:Au) (W:List Go.Mn.Way):List D:=W.flatMap (wayC A)
theorem lb_ (A:Au) (W:List Go.Mn.Way):persL (cg_ A W)=true:=hk_ (fun w=>by simp [wayC,persL,pers,ao_]) W
theorem qz_ (A:Au) (W:List Go.Mn.Way) (w:Go.Mn.Way):cg_ A (W++ [w])=cg_ A W++wayC A w:=by simp [cg_]
theorem nd_ (A:Au):∀ W:List Go.Mn.Way,(cg_ A W).length=W.length*3
 | []=>rfl
 |w::W=>by
  have:=nd_ A W
  unfold cg_ at*
  rw [List.flatMap_cons,List.length_append,this,List.length_cons]
  simp only [wayC,List.length_cons,List.length_nil]
  omega
theorem qy_ (A:Au) (w:Go.Mn.Way) (W:List Go.Mn.Way):(cg_ A (w::W)).drop (1*3)=cg_ A W:=by
 unfold cg_
 rw [List.flatMap_cons]
 rfl
theorem rm_ (A:Au) (w:Go.Mn.Way) (W:List Go.Mn.Way):partD true 3 (0*3) (cg_ A (w::W))=some (.agg (wayC A w)):=by
 unfold partD
 rw [if_pos rfl,if_pos (by rw [nd_,List.length_cons];omega)]
 unfold cg_
 rw [List.flatMap_cons]
 rfl
structure WOk (A:Au) (W:List Go.Mn.Way):Prop where
 nd:(W.map Go.Mn.Way.pr).Nodup
 rng:∀ w∈W,InA A w.p∧InA A w.q
theorem w6_ {A:Au} (hok:AuOk A) {W:List Go.Mn.Way} (h:WOk A W):KeysOk Try.prog 101 (ksW W):=by
 refine⟨rv_,fun v hv=>?_,?_⟩
 ·obtain⟨w,hw,rfl⟩:=List.mem_map.1 hv
  obtain⟨⟨a,b⟩,c,d⟩:=h.rng w hw
  have:=hok.hi
  exact t4_ (by omega) (by omega) (by omega) (by omega)
 ·have h1:=h.nd
  unfold ksW
  rw [List.nodup_iff_pairwise_ne,List.pairwise_map] at h1 ⊢
  exact h1.imp fun hne e=>hne (Prod.ext (i3_ e).1 (i3_ e).2)
theorem ur_ {A:Au} (hok:AuOk A) {W:List Go.Mn.Way} (h:WOk A W) {x y:Int} (hm:(x,y)∈W.map Go.Mn.Way.pr):∃ i,LookT Try.prog 101 (ksW W) (kvP x y) i∧(dsW W)[i]?=some (D.flat (.bool true)):=by
 obtain⟨w,hw,e⟩:=List.mem_map.1 hm
 obtain⟨i,hi⟩:=List.getElem?_of_mem hw
 have e1:w.p=x:=congrArg Prod.fst e
 have e2:w.q=y:=congrArg Prod.snd e
 refine⟨i,⟨w6_ hok h,?_⟩,?_⟩
 ·unfold ksW
  rw [List.getElem?_map,hi,← e1,← e2];rfl
 ·unfold dsW
  rw [List.getElem?_map,hi];rfl
theorem qa_ {A:Au} (hok:AuOk A) {W:List Go.Mn.Way} (h:WOk A W) {x y:Int} (hx:InA A x) (hy:InA A y) (hm:(x,y) ∉ W.map Go.Mn.Way.pr):LookN Try.prog 101 (ksW W) (kvP x y):=by
 obtain⟨a,b⟩:=hx
 obtain⟨c,d⟩:=hy
 have:=hok.hi
 refine⟨w6_ hok h,t4_ (by omega) (by omega) (by omega) (by omega),fun hk=>hm ?_⟩
 obtain⟨w,hw,e⟩:=List.mem_map.1 hk
 exact List.mem_map.2 ⟨w,hw,Prod.ext (i3_ e).1 (i3_ e).2⟩
theorem we_ (W:List Go.Mn.Way) (w:Go.Mn.Way):ksW (W++ [w])=ksW W++ [kvP w.p w.q]∧dsW (W++ [w])=dsW W++ [D.flat (.bool true)]:=by simp [ksW,dsW]
theorem v4_ (l:List D) (n:Nat) (hl:l.length=n*3) (hp:persL l=true) (ho:oneL l=true) (hn:n≤1000000):DLend Try.prog 56 [.sl false 3 n l] [(777,none)] [(777,some (.row 50 3 n l))] (.own 777 n):=by
 have h5:=IdAt.of 5 777
 by_cases h0:n=0
 ·subst h0
  obtain rfl:l=[]:=List.eq_nil_of_length_eq_zero (by omega)
  refine DLend.enterA Try.func56 Try.ntmps56 ?_
  refine DW.adj ?_
  refine DW.flatten 0 rfl ?_
  intro a cap
  cases a with
  |none=>
   refine DW.walk ?_
   exact⟨_,Sub.adoptA h5 2 50 3,.inr rfl,ResL.oneA⟩
  |some a=>
   refine DW.walk ?_
   exact⟨_,Sub.refl _ _,.inr rfl,ResL.oneA⟩
 ·have:0<n:=by omega
  refine DLend.enterA Try.func56 Try.ntmps56 ?_
  refine DW.walk ?_
  exact⟨.inr rfl,ResL.oneA⟩
noncomputable abbrev fb_:Code:=Try.f20.body.getD .skip
theorem acs {cc:Code} (hsel:selC [1,1,1,1,1,0,1,2,2,1,0,2,1,1,1,2,2] fb_=some cc) (LR LB LT SC WL QC DS:List D) (KS:List Value) (n nR nT m i wl L:Nat) (p q sy sa so x y:Int) (hm:m≤5000000) (hi:i<m) (hwl:wl≤1000000) (hL:L≤1000000) (p1:persL LR=true) (p2:persL LB=true) (p3:persL LT=true) (p4:persL SC=true) (p5:persL WL=true) (p6:persL QC=true) (p7:persL DS=true) (hs:partD true 3 (i*3) SC=some (.agg [.flat (.int .i64 sy),.flat (.int .i64 sa),.flat (.int .i64 so)])) (hx:DFun Try.prog 55 [.agg [.flat (.int .i64 sy),.flat (.int .i64 sa),.flat (.int .i64 so)],.agg [.sl false 1 nR LR,.sl false 1 n LB,.sl false 1 nT LT],.flat (.int .i64 p)] (.flat (.int .i64 x))) (hy:DFun Try.prog 55 [.agg [.flat (.int .i64 sy),.flat (.int .i64 sa),.flat (.int .i64 so)],.agg [.sl false 1 nR LR,.sl false 1 n LB,.sl false 1 nT LT],.flat (.int .i64 q)] (.flat (.int .i64 y))) (he:x=y):
  DW Try.prog 122 cc ⟨[(3,.ptr [.sl false 1 nR LR,.sl false 1 n LB,.sl false 1 nT LT] 0),(11,.sl false 3 m SC),(12,.mp 44),(13,.own 700 L),(14,.ref 14 0),(79,.sl false 3 m SC),(80,.flat (.int .i64 ((m:Nat):Int))),(81,.flat (.int .i64 ((i:Nat):Int)))],[(44,some (.box (.keys (KS)::DS))),(700,some (.row 104 3 L QC)),(14,some (.box [.flat (.int .i64 p),.flat (.int .i64 q),.sl false 3 wl WL]))]⟩ (Nm 122 ⟨[(3,.ptr [.sl false 1 nR LR,.sl false 1 n LB,.sl false 1 nT LT] 0),(11,.sl false 3 m SC),(12,.mp 44),(13,.own 700 L),(14,.ref 14 0),(79,.sl false 3 m SC),(80,.flat (.int .i64 ((m:Nat):Int))),(81,.flat (.int .i64 (((i+1):Nat):Int)))],[(44,some (.box (.keys (KS)::DS))),(700,some (.row 104 3 L QC)),(14,some (.box [.flat (.int .i64 p),.flat (.int .i64 q),.sl false 3 wl WL]))]⟩):=by
 refine DW.sel hsel (by rfl) ?_
 subst he
 refine DW.walk ?_
 exact Nm.mk Sub.auto
theorem ado {cc:Code} (hsel:selC [1,1,1,1,1,0,1,2,2,1,0,2,1,1,1,2,2] fb_=some cc) (LR LB LT SC WL QC DS:List D) (KS:List Value) (n nR nT m i wl L:Nat) (p q sy sa so x y:Int) (hm:m≤5000000) (hi:i<m) (hwl:wl≤1000000) (hL:L≤1000000) (p1:persL LR=true) (p2:persL LB=true) (p3:persL LT=true) (p4:persL SC=true) (p5:persL WL=true) (p6:persL QC=true) (p7:persL DS=true) (hs:partD true 3 (i*3) SC=some (.agg [.flat (.int .i64 sy),.flat (.int .i64 sa),.flat (.int .i64 so)])) (hx:DFun Try.prog 55 [.agg [.flat (.int .i64 sy),.flat (.int .i64 sa),.flat (.int .i64 so)],.agg [.sl false 1 nR LR,.sl false 1 n LB,.sl false 1 nT LT],.flat (.int .i64 p)] (.flat (.int .i64 x))) (hy:DFun Try.prog 55 [.agg [.flat (.int .i64 sy),.flat (.int .i64 sa),.flat (.int .i64 so)],.agg [.sl false 1 nR LR,.sl false 1 n LB,.sl false 1 nT LT],.flat (.int .i64 q)] (.flat (.int .i64 y))) (he:¬ x=y) (k:Nat) (hT:LookT Try.prog 101 KS (kvP x y) k) (hk:DS[k]?=some (D.flat (.bool true))):
  DW Try.prog 122 cc ⟨[(3,.ptr [.sl false 1 nR LR,.sl false 1 n LB,.sl false 1 nT LT] 0),(11,.sl false 3 m SC),(12,.mp 44),(13,.own 700 L),(14,.ref 14 0),(79,.sl false 3 m SC),(80,.flat (.int .i64 ((m:Nat):Int))),(81,.flat (.int .i64 ((i:Nat):Int)))],[(44,some (.box (.keys (KS)::DS))),(700,some (.row 104 3 L QC)),(14,some (.box [.flat (.int .i64 p),.flat (.int .i64 q),.sl false 3 wl WL]))]⟩ (Nm 122 ⟨[(3,.ptr [.sl false 1 nR LR,.sl false 1 n LB,.sl false 1 nT LT] 0),(11,.sl false 3 m SC),(12,.mp 44),(13,.own 700 L),(14,.ref 14 0),(79,.sl false 3 m SC),(80,.flat (.int .i64 ((m:Nat):Int))),(81,.flat (.int .i64 (((i+1):Nat):Int)))],[(44,some (.box (.keys (KS)::DS))),(700,some (.row 104 3 L QC)),(14,some (.box [.flat (.int .i64 p),.flat (.int .i64 q),.sl false 3 wl WL]))]⟩):=by
 refine DW.sel hsel (by rfl) ?_
 have hIs:=hx_ x y
 refine DW.walk ?_
 exact Nm.mk Sub.auto
theorem acj {cc:Code} (hsel:selC [1,1,1,1,1,0,1,2,2,1,0,2,1,1,1,2,2] fb_=some cc) (LR LB LT SC WL QC DS:List D) (KS:List Value) (n nR nT m i wl L:Nat) (p q sy sa so x y:Int) (hm:m≤5000000) (hi:i<m) (hwl:wl≤1000000) (hL:L≤1000000) (p1:persL LR=true) (p2:persL LB=true) (p3:persL LT=true) (p4:persL SC=true) (p5:persL WL=true) (p6:persL QC=true) (p7:persL DS=true) (hs:partD true 3 (i*3) SC=some (.agg [.flat (.int .i64 sy),.flat (.int .i64 sa),.flat (.int .i64 so)])) (hx:DFun Try.prog 55 [.agg [.flat (.int .i64 sy),.flat (.int .i64 sa),.flat (.int .i64 so)],.agg [.sl false 1 nR LR,.sl false 1 n LB,.sl false 1 nT LT],.flat (.int .i64 p)] (.flat (.int .i64 x))) (hy:DFun Try.prog 55 [.agg [.flat (.int .i64 sy),.flat (.int .i64 sa),.flat (.int .i64 so)],.agg [.sl false 1 nR LR,.sl false 1 n LB,.sl false 1 nT LT],.flat (.int .i64 q)] (.flat (.int .i64 y))) (he:¬ x=y) (hN:LookN Try.prog 101 KS (kvP x y)) (KS2:List Value) (DS2 QC2:List D) (hK2:KS++ [kvP x y]=KS2) (hD2:DS++ [D.flat (.bool true)]=DS2) (hQ2:QC++ [.flat (.int .i64 x),.flat (.int .i64 y),.sl false 3 (wl+1) (WL++ [.flat (.int .i64 sy),.flat (.int .i64 sa),.flat (.int .i64 so)])]=QC2) (p8:persL QC2=true) (p9:persL DS2=true) (hc:DLend Try.prog 56 [.sl false 3 wl WL] [(777,none)] [(777,some (.row 50 3 wl WL))] (.own 777 wl)) (hWn:persL (WL++ [.flat (.int .i64 sy),.flat (.int .i64 sa),.flat (.int .i64 so)])=true):
  DW Try.prog 122 cc ⟨[(3,.ptr [.sl false 1 nR LR,.sl false 1 n LB,.sl false 1 nT LT] 0),(11,.sl false 3 m SC),(12,.mp 44),(13,.own 700 L),(14,.ref 14 0),(79,.sl false 3 m SC),(80,.flat (.int .i64 ((m:Nat):Int))),(81,.flat (.int .i64 ((i:Nat):Int)))],[(44,some (.box (.keys (KS)::DS))),(700,some (.row 104 3 L QC)),(14,some (.box [.flat (.int .i64 p),.flat (.int .i64 q),.sl false 3 wl WL]))]⟩ (Nm 122 ⟨[(3,.ptr [.sl false 1 nR LR,.sl false 1 n LB,.sl false 1 nT LT] 0),(11,.sl false 3 m SC),(12,.mp 44),(13,.own 700 (L+1)),(14,.ref 14 0),(79,.sl false 3 m SC),(80,.flat (.int .i64 ((m:Nat):Int))),(81,.flat (.int .i64 (((i+1):Nat):Int)))],[(44,some (.box (.keys (KS2)::DS2))),(700,some (.row 104 3 (L+1) QC2)),(14,some (.box [.flat (.int .i64 p),.flat (.int .i64 q),.sl false 3 wl WL]))]⟩):=by
 refine DW.sel hsel (by rfl) ?_
 have hIs:=hx_ x y
 refine DW.walkTo 21 ?_
 rw [hK2,hD2]
 refine DW.regD rfl (by kernel_rfl) ?_
 refine DC.isOp ?_
 apply DC.is_move
 refine DC.k_move ?_
 refine DC.isOp ?_
 apply DC.is_load
 refine DC.k_load ?_
 refine DC.isOp ?_
 apply DC.is_fieldAddr
 refine DC.k_fieldAddr ?_
 refine DC.isOp ?_
 apply DC.is_load
 refine DC.k_load ?_
 refine DC.isOp ?_
 apply DC.is_callv
 refine DC.k_callv ?_
 refine DC.isOp ?_
 apply DC.is_load
 refine DC.k_load ?_
 refine DC.isOp ?_
 apply DC.is_buildSlice
 refine DC.k_buildSlice ?_
 refine DC.t (T.appendGive _ _ _ TySl.h TyIn.h rfl (by decide) (by decide) Le.full rfl (by omega) hWn) ⟨rfl,rfl,trivial⟩ ⟨rfl,trivial⟩ ?_
 refine DC.walk ?_
 rw [hQ2]
 exact Nm.mk Sub.auto
end Go.Proofs.Ytichhfbkhnimmaa
