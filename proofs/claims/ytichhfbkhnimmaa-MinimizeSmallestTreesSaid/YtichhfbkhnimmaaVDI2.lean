/- A renumbered automaton stands in itself. No condition. -/
import Derived.Test.YtichhfbkhnimmaaVQB
set_option linter.unusedSimpArgs false
set_option linter.unusedVariables false
set_option maxHeartbeats 4000000
set_option maxRecDepth 8000
namespace Go.Proofs.Ytichhfbkhnimmaa
open Go Go.RowKit Go.PP Go.Dm Go.Rt Go.Mn
theorem or_ {A:Au} (hok:AuOk A) {i p:Nat} (hi:i<A.r.length) {ds:List Int} (hp:(ar_ A.f.length ds).toNat=p) (hpl:p<(rowN A i).length):atI A (i:Int) ds=((succN A i p:Nat):Int):=by
 obtain⟨h1,h2,h3⟩:=bq_ hok hi
 have h4:=h3 p _ (List.getElem?_eq_getElem hpl)
 unfold atI
 rw [Int.toNat_natCast,hp]
 show (rowN A i).getD p 0=_
 rw [List.getD_eq_getElem?_getD,List.getElem?_eq_getElem hpl]
 exact h4.1
theorem hp_ {n:Nat} {T:Int→List Int→Int} {i k p:Nat} (h:p<n ^ k):(a3_ n T i ((k:Nat):Int))[p]?=some (T i (digs n k p)):=by
 unfold a3_ ba_
 rw [Int.toNat_natCast,List.getElem?_map,List.getElem?_range h];rfl
theorem la_ {l:List Int} {x:Int} (h:x∈l):l.getD ((l.idxOf x:Nat):Int).toNat 0=x:=by
 have:=xi_ h
 rw [gq_ h] at this
 exact this
theorem wd_ {A:Au} (hok:AuOk A) {l:List Int} (hall:∀ x:Nat,x<A.f.length→(x:Int)∈l) (hlen:l.length=A.f.length):Iso A (c6_ A l) (fun x=>l.idxOf (x:Int)):=by
 have hlt:∀ x:Nat,x<A.f.length→l.idxOf (x:Int)<A.f.length:=fun x hx=>by
  have:=List.idxOf_lt_length_of_mem (hall x hx)
  omega
 have hto:∀ i k:Nat,A.r[i]?=some ((k:Nat):Int)→(c6_ A l).to[i]?=some (a3_ l.length (ks_ A l) i ((k:Nat):Int)):=fun i k h=>g9_ h
 have hgt:∀ (i:Nat) (ds:List Int) (s:Nat),atI A i (ds.map fun d=>l.getD d.toNat 0)=((s:Nat):Int)→s<A.f.length→ks_ A l i ds=((l.idxOf ((s:Nat):Int):Nat):Int):=fun i ds s h hs=>by
  unfold ks_
  rw [h,gq_ (hall s hs)]
 refine⟨hlt,?_,fun i hi hr=>?_,fun i hi hr=>?_,fun i hi hr=>?_⟩
 ·show (ap_ _ _ _).length=_
  rw [hok.len];simp [ap_]
 all_goals
  obtain⟨h1,h2,h3⟩:=bq_ hok hi
  obtain⟨-,hrk⟩:=bg_ hok hi
  rw [hr] at h2 hrk
  have hsl:∀ p,p<(rowN A i).length→succN A i p<A.f.length:=fun p hp=>(h3 p _ (List.getElem?_eq_getElem hp)).2
  refine⟨_,hto i _ hrk,?_⟩
 ·rw [hp_ (by simp)]
  have h0:0<(rowN A i).length:=by rw [h2];simp
  rw [hgt i (digs l.length 0 0) (succN A i 0) (or_ hok hi rfl h0) (hsl 0 h0)]
 ·intro p hp
  have h0:p<(rowN A i).length:=by rw [h2];simpa using hp
  rw [hp_ (by rw [hlen];simpa using hlt p hp),k0_ (by rw [hlen];exact hlt p hp)]
  rw [hgt i _ (succN A i p) ?_ (hsl p h0)]
  rw [List.map_cons,List.map_nil,la_ (hall p hp)]
  exact or_ hok hi (by show (0*_+(p:Int)).toNat=p;omega) h0
 ·intro p hp
  have h0:p<(rowN A i).length:=by rw [h2,Nat.pow_two];exact hp
  have hn:0<A.f.length:=hok.lo
  have ha:p / A.f.length<A.f.length:=Nat.div_lt_of_lt_mul hp
  have hb:p % A.f.length<A.f.length:=Nat.mod_lt _ hn
  have hq1:=hlt _ ha
  have hq2:=hlt _ hb
  have hbig:l.idxOf ((p / A.f.length:Nat):Int)*A.f.length+l.idxOf ((p % A.f.length:Nat):Int)<A.f.length ^ 2:=by
   rw [Nat.pow_two]
   have:(l.idxOf ((p / A.f.length:Nat):Int)+1)*A.f.length≤A.f.length*A.f.length:=Nat.mul_le_mul_right _ hq1
   rw [Nat.succ_mul] at this
   omega
  have hd2:=qa_ (m:=l.length) (w:=l.idxOf ((p / A.f.length:Nat):Int)) (v:=l.idxOf ((p % A.f.length:Nat):Int)) (by omega) (by omega)
  rw [hlen] at hd2
  rw [hlen,hp_ hbig,hd2]
  rw [hgt i _ (succN A i p) ?_ (hsl p h0)]
  rw [List.map_cons,List.map_cons,List.map_nil,la_ (hall _ ha),la_ (hall _ hb)]
  refine or_ hok hi ?_ h0
  show ((0*_+((p / A.f.length:Nat):Int))*(A.f.length:Int)+((p % A.f.length:Nat):Int)).toNat=p
  have h5:(((p / A.f.length)*A.f.length+p % A.f.length:Nat):Int)=(0*(A.f.length:Int)+((p / A.f.length:Nat):Int))*(A.f.length:Int)+((p % A.f.length:Nat):Int):=by rw [Int.natCast_add,Int.natCast_mul,Int.zero_mul,Int.zero_add]
  rw [← h5,Int.toNat_natCast,Nat.mul_comm]
  exact Nat.div_add_mod p A.f.length
def mixU (A:Au) (j:Nat):List Int:=(List.range A.f.length).map fun s=>if s<j then bu_ A s else toQ A s
theorem fx_ (A:Au) (j:Nat):(mixU A j).length=A.f.length:=by simp [mixU]
theorem h8_ {A:Au} {j s:Nat} (h:s<A.f.length):(mixU A j)[s]?=some (if s<j then bu_ A s else toQ A s):=by simp [mixU,h]
theorem v7_ (A:Au):mixU A 0=(List.range A.f.length).map (toQ A):=by simp [mixU]
theorem w7_ (A:Au):mixU A A.f.length=(List.range A.f.length).map (bu_ A):=by
 unfold mixU
 refine List.map_congr_left fun s hs=>?_
 rw [if_pos (List.mem_range.1 hs)]
theorem oo_ {A:Au} {j:Nat} (h:j<A.f.length):(mixU A j).set j (bu_ A j)=mixU A (j+1):=by
 refine List.ext_getElem? fun a=>?_
 rw [List.getElem?_set,fx_]
 by_cases e:j=a
 ·subst e
  rw [if_pos rfl,if_pos h,h8_ h,if_pos (by omega)]
 ·rw [if_neg e]
  by_cases ha:a<A.f.length
  ·rw [h8_ ha,h8_ ha]
   by_cases h1:a<j
   ·rw [if_pos h1,if_pos (by omega)]
   ·rw [if_neg h1,if_neg (by omega)]
  ·rw [List.getElem?_eq_none (by rw [fx_];omega),List.getElem?_eq_none (by rw [fx_];omega)]
theorem uq_ {A:Au} {j:Nat} (h:j<A.f.length) (he:toQ A j=bu_ A j):mixU A (j+1)=mixU A j:=by
 rw [← oo_ h,← he]
 refine List.ext_getElem? fun a=>?_
 rw [List.getElem?_set,fx_]
 by_cases e:j=a
 ·subst e
  rw [if_pos rfl,if_pos h,h8_ h,if_neg (by omega)]
 ·rw [if_neg e]
theorem uu_ {A:Au} (hk:chk A=0) {j:Nat} (hf:(j:Int)∈ad_ A):∃ t:Nat,toQ A j=(t:Int)∧t<(af_ A).length∧bu_ A j=(((ad_ (quoA A (af_ A))).idxOf (t:Int):Nat):Int):=by
 have hr:=cx_ (a6_ hk)
 have h1:=oa_ hr hf
 refine⟨idxC A (af_ A) (j:Int),om_ hf,h1,?_⟩
 unfold bu_
 rw [if_pos hf,gq_ (tj_ hk hr h1)]
theorem xl_ (A:Au) (hk:chk A=0):DFun Try.prog 59 [auD A] (.tup [auD (bs_ A),.sl false 1 A.f.length (((List.range A.f.length).map (bu_ A)).map fun x=>D.flat (.int .i64 x))]):=by
 have hok:=a6_ hk
 have hr:=cx_ hok
 have hq:=q4_ A hk
 have hqk:=rt_ hk hr
 have hqo:=a6_ hqk
 have hql:(quoA A (af_ A)).f.length=(af_ A).length:=k5_
 have hall:∀ x:Nat,x<(quoA A (af_ A)).f.length→(x:Int)∈ad_ (quoA A (af_ A)):=fun x hx=>tj_ hk hr (by rw [hql] at hx;exact hx)
 have hft:=(q3_ hk hr)
 have hfl:(ad_ (quoA A (af_ A))).length=(quoA A (af_ A)).f.length:=hft.len
 have htr:=yz_ (quoA A (af_ A)) (bj_ hqo)
 rw [p5_ hqk] at htr
 have htk:chk (c6_ (quoA A (af_ A)) (ad_ (quoA A (af_ A))))=0:=sm_ hk
 have hfo:=vn_ (quoA A (af_ A)) (c6_ (quoA A (af_ A)) (ad_ (quoA A (af_ A)))) (fun x=>(ad_ (quoA A (af_ A))).idxOf (x:Int)) hqo (a6_ htk) (wd_ hqo hall hfl) (by rw [vv_,hfl]) hall
 have hle:bs_ A=c6_ (quoA A (af_ A)) (ad_ (quoA A (af_ A))):=rfl
 rw [hle]
 have hnn:=hok.hi
 have hmm:=hr.len hok
 have hlt:=fun (j:Nat) (hf:(j:Int)∈ad_ A)=>uu_ hk hf
 have hno:∀ j:Nat,(j:Int) ∉ ad_ A→toQ A j= -1∧bu_ A j= -1:=fun j h=>⟨wt_ h,by unfold bu_;rw [if_neg h]⟩
 have hTU:∀ t:Nat,t<(af_ A).length→partD false 1 (t*1) ((List.range (af_ A).length).map fun x=>D.flat (.int .i64 (((ad_ (quoA A (af_ A))).idxOf ((x:Nat):Int):Nat):Int)))=some (.flat (.int .i64 (((ad_ (quoA A (af_ A))).idxOf (t:Int):Nat):Int))):=fun t ht=>by
  have h:=an_ (l:=(List.range (af_ A).length).map fun x:Nat=>(((ad_ (quoA A (af_ A))).idxOf ((x:Nat):Int):Nat):Int)) (i:=t) (x:=(((ad_ (quoA A (af_ A))).idxOf (t:Int):Nat):Int)) (by simp [ht])
  rw [List.map_map] at h
  exact h
 rw [hql] at hfo
 have hTUp:persL ((List.range (af_ A).length).map fun x=>D.flat (.int .i64 (((ad_ (quoA A (af_ A))).idxOf ((x:Nat):Int):Nat):Int)))=true:=ac_ (fun _=>rfl) _
 have hpI:=fun U:List Int=>ab_ U
 have hgetm:=fun (j:Nat) (h:j<A.f.length)=>an_ (h8_ (A:=A) (j:=j) (s:=j) h)
 have hset:=fun (j:Nat) (h:j<A.f.length)=>oo_ (A:=A) (j:=j) h
 have hskip:=fun (j:Nat) (h:j<A.f.length) (e:toQ A j=bu_ A j)=>uq_ h e
 rw [← v7_] at hq
 rw [← w7_]
 have hml:=fun j=>fx_ A j
 have q1:=ab_ A.r
 have q2:=al_ A.f
 have q3:=ao_ A.to
 have hspl:∀ j,j<A.f.length→List.take (j*1) ((mixU A j).map fun x=>D.flat (.int .i64 x))++ [D.flat (.int .i64 (bu_ A j))]++List.drop (j*1+1) ((mixU A j).map fun x=>D.flat (.int .i64 x))=((mixU A (j+1)).map fun x=>D.flat (.int .i64 x)):=fun j hj=>by
  have h1:=bi_ (x:=D.flat (.int .i64 (bu_ A j))) (show j<((mixU A j).map fun x=>D.flat (.int .i64 x)).length by rw [List.length_map,fx_];exact hj)
  unfold spliceD at h1
  rw [Nat.mul_one,← oo_ hj,List.map_set]
  exact h1
 have hmll:∀ j,((mixU A j).map fun x=>D.flat (.int .i64 x)).length=A.f.length:=fun j=>by rw [List.length_map,fx_]
 have q4:=ab_ (quoA A (af_ A)).r
 have q5:=al_ (quoA A (af_ A)).f
 have q6:=ao_ (quoA A (af_ A)).to
 have k1:=ab_ (c6_ (quoA A (af_ A)) (ad_ (quoA A (af_ A)))).r
 have k2:=al_ (c6_ (quoA A (af_ A)) (ad_ (quoA A (af_ A)))).f
 have k3:=ao_ (c6_ (quoA A (af_ A)) (ad_ (quoA A (af_ A)))).to
 rw [a1_ A] at*
 rw [a1_ (quoA A (af_ A))] at hq htr hfo
 rw [a1_ (c6_ (quoA A (af_ A)) (ad_ (quoA A (af_ A))))] at htr hfo ⊢
 generalize ((c6_ (quoA A (af_ A)) (ad_ (quoA A (af_ A)))).r.map fun x=>D.flat (.int .i64 x))=C1 at*
 generalize ((c6_ (quoA A (af_ A)) (ad_ (quoA A (af_ A)))).f.map fun x=>D.flat (.bool x))=C2 at*
 generalize aj_ (c6_ (quoA A (af_ A)) (ad_ (quoA A (af_ A)))).to=C3 at*
 generalize (c6_ (quoA A (af_ A)) (ad_ (quoA A (af_ A)))).r.length=c1 at*
 generalize (c6_ (quoA A (af_ A)) (ad_ (quoA A (af_ A)))).f.length=c2 at*
 generalize (c6_ (quoA A (af_ A)) (ad_ (quoA A (af_ A)))).to.length=c3 at*
 generalize ((quoA A (af_ A)).r.map fun x=>D.flat (.int .i64 x))=G1 at*
 generalize ((quoA A (af_ A)).f.map fun x=>D.flat (.bool x))=G2 at*
 generalize aj_ (quoA A (af_ A)).to=G3 at*
 generalize (quoA A (af_ A)).r.length=g1 at*
 generalize (quoA A (af_ A)).f.length=g2 at*
 generalize (quoA A (af_ A)).to.length=g3 at*
 generalize hTUe:((List.range (af_ A).length).map fun x=>D.flat (.int .i64 (((ad_ (quoA A (af_ A))).idxOf ((x:Nat):Int):Nat):Int)))=TU at*
 generalize (af_ A).length=m at*
 generalize (A.r.map fun x=>D.flat (.int .i64 x))=LR at*
 generalize (A.f.map fun x=>D.flat (.bool x))=LB at*
 generalize aj_ A.to=LT at*
 generalize hnA:A.f.length=n at*
 have p00:=hpI (mixU A 0)
 generalize hM0:((mixU A 0).map fun x=>D.flat (.int .i64 x))=M0 at*
 refine DFun.enterA Try.func59 Try.ntmps59 ?_
 refine DW.walk ?_
 refine DW.loopA (fun j:Nat=>⟨[(2,.ref 2 0),(5,.own 38 n),(6,.ptr [.sl false 1 c1 C1,.sl false 1 c2 C2,.sl false 1 c3 C3] 0),(8,.sl false 1 m TU),(24,.own 38 n),(25,.flat (.int .i64 ((n:Nat):Int))),(26,.flat (.int .i64 ((j:Nat):Int)))],[(2,some (.box [.flat (.slice none 0 0),.flat (.slice none 0 0),.flat (.slice none 0 0)])),(38,some (.row 3 1 n ((mixU A j).map fun x=>D.flat (.int .i64 x))))]⟩) (fun j=>j≤n) (fun j=>n - j) 0 ?_ (Nat.zero_le _) (by show Sub _ _ ⟨[(2,.ref 2 0),(5,.own 38 n),(6,.ptr [.sl false 1 c1 C1,.sl false 1 c2 C2,.sl false 1 c3 C3] 0),(8,.sl false 1 m TU),(24,.own 38 n),(25,.flat (.int .i64 ((n:Nat):Int))),(26,.flat (.int .i64 ((0:Nat):Int)))],[(2,some (.box [.flat (.slice none 0 0),.flat (.slice none 0 0),.flat (.slice none 0 0)])),(38,some (.row 3 1 n ((mixU A 0).map fun x=>D.flat (.int .i64 x))))]⟩;rw [hM0];exact Sub.auto)
 intro j hj
 rcases Nat.lt_or_ge j n with hjl|hjg
 ·have hg:=hgetm j hjl
  rw [if_neg (by omega)] at hg
  have p0:=hpI (mixU A j)
  have p1:=hpI (mixU A (j+1))
  have hsp:=hspl j hjl
  have hl0:=hmll j
  by_cases hf:(j:Int)∈ad_ A
  ·obtain⟨t,t1,t2,t3⟩:=hlt j hf
   have hv:=hTU t t2
   rw [t1] at hg
   rw [t3] at hsp
   generalize (((ad_ (quoA A (af_ A))).idxOf (t:Int):Nat):Int)=v at*
   generalize hM1:((mixU A (j+1)).map fun x=>D.flat (.int .i64 x))=M1 at*
   generalize ((mixU A j).map fun x=>D.flat (.int .i64 x))=MJ at*
   clear hq htr hfo hlt hno hTU hpI hgetm hset hskip hspl hmll hall hft hfl hTUe
   refine DW.walk ?_
   rw [hsp]
   exact⟨j+1,by omega,by omega,by rw [hM1];exact Sub.auto⟩
  ·obtain⟨t1,t2⟩:=hno j hf
   have hs:=hskip j hjl (t1.trans t2.symm)
   rw [t1] at hg
   generalize hM1:((mixU A j).map fun x=>D.flat (.int .i64 x))=M1 at*
   clear hq htr hfo hlt hno hTU hpI hgetm hset hskip hspl hmll hall hft hfl hTUe
   refine DW.walk ?_
   exact⟨j+1,by omega,by omega,by rw [hs,hM1];exact Sub.auto⟩
 ·obtain rfl:n=j:=by omega
  have p0:=hpI (mixU A n)
  generalize ((mixU A n).map fun x=>D.flat (.int .i64 x))=MJ at*
  clear hq htr hfo hlt hno hTU hpI hgetm hset hskip hspl hmll hall hft hfl hTUe
  refine DW.walk ?_
  exact⟨.inr rfl,ResOk.cellTmpA [(38,some (.row 3 1 n MJ))] rfl rfl rfl TyI.ag TyI.sz rfl ⟨rfl,trivial⟩ (VwL.pers (by simp only [persL,pers,k1,k2,k3,Bool.and_self])) (Le.refl _) (Vw.own (.head _) (VwL.pers p0))⟩
theorem nl_ (A:Au) (hk:chk A=0):DFun Try.prog 24 [auD A] (.tup [auD (bs_ A),.sl false 1 A.f.length (((List.range A.f.length).map (bu_ A)).map fun x=>D.flat (.int .i64 x)),.flat (.int .i64 0)]):=by
 have hc:=fy_ A (bj_ (a6_ hk))
 rw [hk] at hc
 have hl:=xl_ A hk
 have hp:=ab_ ((List.range A.f.length).map (bu_ A))
 generalize (((List.range A.f.length).map (bu_ A)).map fun x=>D.flat (.int .i64 x))=TO at*
 have q1:=ab_ A.r
 have q2:=al_ A.f
 have q3:=ao_ A.to
 rw [a1_ A] at hc hl ⊢
 generalize (A.r.map fun x=>D.flat (.int .i64 x))=LR at*
 generalize (A.f.map fun x=>D.flat (.bool x))=LB at*
 generalize aj_ A.to=LT at*
 generalize A.r.length=lr at*
 generalize A.f.length=lb at*
 generalize A.to.length=lt at*
 have k1:=ab_ (bs_ A).r
 have k2:=al_ (bs_ A).f
 have k3:=ao_ (bs_ A).to
 rw [a1_ (bs_ A)] at hl ⊢
 generalize ((bs_ A).r.map fun x=>D.flat (.int .i64 x))=MR at*
 generalize ((bs_ A).f.map fun x=>D.flat (.bool x))=MB at*
 generalize aj_ (bs_ A).to=MT at*
 generalize (bs_ A).r.length=mr at*
 generalize (bs_ A).f.length=mb at*
 generalize (bs_ A).to.length=mt at*
 refine DFun.enterA Try.func24 Try.ntmps24 ?_
 refine DW.walk ?_
 exact⟨.inr rfl,ResOk.cellTmp2 [] rfl rfl rfl TyI.ag TyI.sz rfl rfl rfl trivial (Vw.agg (VwL.pers (show persL [.sl false 1 mr MR,.sl false 1 mb MB,.sl false 1 mt MT]=true from (by simp only [persL,pers,k1,k2,k3,Bool.and_self])))) (Vw.pers rfl) (Vw.pers rfl)⟩
theorem sk_ {x y:Int} (hx0: -1000000000≤x) (hx1:x≤1000000000) (hy0: -1000000000≤y) (hy1:y≤1000000000):∃ l,keyOf Try.prog 101 (kvP x y)=some l:=by
  have hF:hm_ (Try.prog.underlying 101)=some ([(3,0),(3,1)],true):=by kernel_rfl
  have hc:Try.prog.cellsOf 101=2:=by kernel_rfl
  have hc2:Try.prog.cellsOf 3=1:=by kernel_rfl
  have hu2:Try.prog.underlying 3=some (.int .i64):=by kernel_rfl
  have hk:Try.prog.keyType 101=true:=by kernel_rfl
  have hx:=p2_ hx0 hx1
  have hy:=p2_ hy0 hy1
  obtain⟨n,hn⟩:=kh_
  have hu:∃ fs,Try.prog.underlying 101=some (.struct fs)∧fs.toList.map (fun f=>(f.type,f.offset))=[(3,0),(3,1)]∧fs.all (·.name != "_")=true:=by
    generalize Try.prog.underlying 101=u at hF
    unfold hm_ at hF
    split at hF
    · rename_i fs
      simp only [Option.some.injEq,Prod.mk.injEq] at hF
      exact⟨fs,rfl,hF.1,hF.2⟩
    ·cases hF
  obtain⟨fs,hu,hf,hall⟩:=hu
  obtain ⟨f0,f1,hfs,e0,e1,e2,e3⟩:∃ f0 f1,fs.toList=[f0,f1]∧f0.type=3∧f0.offset=0∧f1.type=3∧f1.offset=1:=by
    generalize fs.toList=q at hf
    cases q with
    |nil=>simp at hf
    | cons f0 r=>
      cases r with
      |nil=>simp at hf
      | cons f1 r2=>
        cases r2 with
        | nil=>
          simp only [List.map_cons,List.map_nil,List.cons.injEq,Prod.mk.injEq,and_true] at hf
          exact⟨f0,f1,rfl,hf.1.1,hf.1.2,hf.2.1,hf.2.2⟩
        |cons f2 r3=>simp at hf
  have hl:Try.prog.keyLits (n+2) 101 [Value.int .i64 x,Value.int .i64 y]=some [.int .i64 x,.int .i64 y]:=by
    have hi:∀ z:Int,(Lit.int .i64 z).wf=true→Try.prog.keyLits (n+1) 3 [Value.int .i64 z]=some [.int .i64 z]:=fun z hz=>by
      unfold Program.keyLits
      simp only [hu2,hz,and_self,if_true]
    rw [Program.keyLits.eq_def]
    simp only [hu,hc,List.length_cons,List.length_nil,hall,and_self,if_true,hfs]
    simp [e0,e1,e2,e3,hc2,hi x hx,hi y hy]
  refine⟨.string (keyBytes [.int .i64 x,.int .i64 y]),?_⟩
  unfold keyOf
  rw [hu]
  simp only [hk,hn,kvP,Value.formed,hu,hc,Value.cells,Bool.true_and,List.size_toArray,List.length_cons,List.length_nil,hl,decide_true,beq_self_eq_true,if_true,Option.map_some]
theorem ub_:Maps.Keyed Try.prog 101:=Maps.Keyed.of_law (deep_law_laid (by kernel_rfl) (m:=2) (by decide) (by decide +kernel) (by kernel_rfl) (by kernel_rfl))
def ksW (W:List Go.Mn.Way):List Value:=W.map fun w=>kvP w.p w.q
def dsW (W:List Go.Mn.Way):List D:=W.map fun _=>D.flat (.bool true)
def wayC (A:Au) (w:Go.Mn.Way):List D:=[.flat (.int .i64 w.p),.flat (.int .i64 w.q),.sl false 3 w.l.length (spC (a2_ A w.l))]
def b7_ (A:Au) (W:List Go.Mn.Way):List D:=W.flatMap (wayC A)
theorem jr_ (A:Au) (W:List Go.Mn.Way):persL (b7_ A W)=true:=gy_ (fun w=>by simp [wayC,persL,pers,bv_]) W
theorem qw_ (A:Au) (W:List Go.Mn.Way) (w:Go.Mn.Way):b7_ A (W++ [w])=b7_ A W++wayC A w:=by simp [b7_]
theorem l4_ (A:Au):∀ W:List Go.Mn.Way,(b7_ A W).length=W.length*3
 | []=>rfl
 |w::W=>by
  have:=l4_ A W
  unfold b7_ at*
  rw [List.flatMap_cons,List.length_append,this,List.length_cons]
  simp only [wayC,List.length_cons,List.length_nil]
  omega
theorem q6_ (A:Au) (w:Go.Mn.Way) (W:List Go.Mn.Way):(b7_ A (w::W)).drop (1*3)=b7_ A W:=by
 unfold b7_
 rw [List.flatMap_cons]
 rfl
theorem rr_ (A:Au) (w:Go.Mn.Way) (W:List Go.Mn.Way):partD true 3 (0*3) (b7_ A (w::W))=some (.agg (wayC A w)):=by
 unfold partD
 rw [if_pos rfl,if_pos (by rw [l4_,List.length_cons];omega)]
 unfold b7_
 rw [List.flatMap_cons]
 rfl
structure WOk (A:Au) (W:List Go.Mn.Way):Prop where
 nd:(W.map Go.Mn.Way.pr).Nodup
 rng:∀ w∈W,InA A w.p∧InA A w.q
theorem wm_ {A:Au} (hok:AuOk A) {W:List Go.Mn.Way} (h:WOk A W):KeysOk Try.prog 101 (ksW W):=by
 refine⟨ub_,fun v hv=>?_,?_⟩
 ·obtain⟨w,hw,rfl⟩:=List.mem_map.1 hv
  obtain⟨⟨a,b⟩,c,d⟩:=h.rng w hw
  have:=hok.hi
  exact sk_ (by omega) (by omega) (by omega) (by omega)
 ·have h1:=h.nd
  unfold ksW
  rw [List.nodup_iff_pairwise_ne,List.pairwise_map] at h1 ⊢
  exact h1.imp fun hne e=>hne (Prod.ext (ji_ e).1 (ji_ e).2)
theorem ui_ {A:Au} (hok:AuOk A) {W:List Go.Mn.Way} (h:WOk A W) {x y:Int} (hm:(x,y)∈W.map Go.Mn.Way.pr):∃ i,LookT Try.prog 101 (ksW W) (kvP x y) i∧(dsW W)[i]?=some (D.flat (.bool true)):=by
 obtain⟨w,hw,e⟩:=List.mem_map.1 hm
 obtain⟨i,hi⟩:=List.getElem?_of_mem hw
 have e1:w.p=x:=congrArg Prod.fst e
 have e2:w.q=y:=congrArg Prod.snd e
 refine⟨i,⟨wm_ hok h,?_⟩,?_⟩
 ·unfold ksW
  rw [List.getElem?_map,hi,← e1,← e2];rfl
 ·unfold dsW
  rw [List.getElem?_map,hi];rfl
theorem pj_ {A:Au} (hok:AuOk A) {W:List Go.Mn.Way} (h:WOk A W) {x y:Int} (hx:InA A x) (hy:InA A y) (hm:(x,y) ∉ W.map Go.Mn.Way.pr):LookN Try.prog 101 (ksW W) (kvP x y):=by
 obtain⟨a,b⟩:=hx
 obtain⟨c,d⟩:=hy
 have:=hok.hi
 refine⟨wm_ hok h,sk_ (by omega) (by omega) (by omega) (by omega),fun hk=>hm ?_⟩
 obtain⟨w,hw,e⟩:=List.mem_map.1 hk
 exact List.mem_map.2 ⟨w,hw,Prod.ext (ji_ e).1 (ji_ e).2⟩
theorem u3_ (W:List Go.Mn.Way) (w:Go.Mn.Way):ksW (W++ [w])=ksW W++ [kvP w.p w.q]∧dsW (W++ [w])=dsW W++ [D.flat (.bool true)]:=by simp [ksW,dsW]
theorem u0_ (l:List D) (n:Nat) (hl:l.length=n*3) (hp:persL l=true) (ho:oneL l=true) (hn:n≤1000000):DLend Try.prog 56 [.sl false 3 n l] [(777,none)] [(777,some (.row 50 3 n l))] (.own 777 n):=by
 have h5:=IdAt.of 5 777
 by_cases h0:n=0
 ·subst h0
  obtain rfl:l=[]:=List.eq_nil_of_length_eq_zero (by omega)
  refine DLend.enterA Try.func56 Try.ntmps56 ?_
  refine DW.adj ?_
  refine DW.flatten 0 rfl ?_
  intro a cap
  cases a with
  |none=>
   refine DW.walk ?_
   exact⟨_,Sub.adoptA h5 2 50 3,.inr rfl,ResL.oneA⟩
  |some a=>
   refine DW.walk ?_
   exact⟨_,Sub.refl _ _,.inr rfl,ResL.oneA⟩
 ·have:0<n:=by omega
  refine DLend.enterA Try.func56 Try.ntmps56 ?_
  refine DW.walk ?_
  exact⟨.inr rfl,ResL.oneA⟩
noncomputable abbrev ew_:Code:=Try.f20.body.getD .skip
theorem ad2 {cc:Code} (hsel:selC [1,1,1,1,1,0,1,2,2,1,0,2,1,1,1,2,2] ew_=some cc) (LR LB LT SC WL QC DS:List D) (KS:List Value) (n nR nT m i wl L:Nat) (p q sy sa so x y:Int) (hm:m≤5000000) (hi:i<m) (hwl:wl≤1000000) (hL:L≤1000000) (p1:persL LR=true) (p2:persL LB=true) (p3:persL LT=true) (p4:persL SC=true) (p5:persL WL=true) (p6:persL QC=true) (p7:persL DS=true) (hs:partD true 3 (i*3) SC=some (.agg [.flat (.int .i64 sy),.flat (.int .i64 sa),.flat (.int .i64 so)])) (hx:DFun Try.prog 55 [.agg [.flat (.int .i64 sy),.flat (.int .i64 sa),.flat (.int .i64 so)],.agg [.sl false 1 nR LR,.sl false 1 n LB,.sl false 1 nT LT],.flat (.int .i64 p)] (.flat (.int .i64 x))) (hy:DFun Try.prog 55 [.agg [.flat (.int .i64 sy),.flat (.int .i64 sa),.flat (.int .i64 so)],.agg [.sl false 1 nR LR,.sl false 1 n LB,.sl false 1 nT LT],.flat (.int .i64 q)] (.flat (.int .i64 y))) (he:x=y):
  DW Try.prog 122 cc ⟨[(3,.ptr [.sl false 1 nR LR,.sl false 1 n LB,.sl false 1 nT LT] 0),(11,.sl false 3 m SC),(12,.mp 44),(13,.own 700 L),(14,.ref 14 0),(79,.sl false 3 m SC),(80,.flat (.int .i64 ((m:Nat):Int))),(81,.flat (.int .i64 ((i:Nat):Int)))],[(44,some (.box (.keys (KS)::DS))),(700,some (.row 104 3 L QC)),(14,some (.box [.flat (.int .i64 p),.flat (.int .i64 q),.sl false 3 wl WL]))]⟩ (Nm 122 ⟨[(3,.ptr [.sl false 1 nR LR,.sl false 1 n LB,.sl false 1 nT LT] 0),(11,.sl false 3 m SC),(12,.mp 44),(13,.own 700 L),(14,.ref 14 0),(79,.sl false 3 m SC),(80,.flat (.int .i64 ((m:Nat):Int))),(81,.flat (.int .i64 (((i+1):Nat):Int)))],[(44,some (.box (.keys (KS)::DS))),(700,some (.row 104 3 L QC)),(14,some (.box [.flat (.int .i64 p),.flat (.int .i64 q),.sl false 3 wl WL]))]⟩):=by
 refine DW.sel hsel (by rfl) ?_
 subst he
 refine DW.walk ?_
 exact Nm.mk Sub.auto
theorem ac8 {cc:Code} (hsel:selC [1,1,1,1,1,0,1,2,2,1,0,2,1,1,1,2,2] ew_=some cc) (LR LB LT SC WL QC DS:List D) (KS:List Value) (n nR nT m i wl L:Nat) (p q sy sa so x y:Int) (hm:m≤5000000) (hi:i<m) (hwl:wl≤1000000) (hL:L≤1000000) (p1:persL LR=true) (p2:persL LB=true) (p3:persL LT=true) (p4:persL SC=true) (p5:persL WL=true) (p6:persL QC=true) (p7:persL DS=true) (hs:partD true 3 (i*3) SC=some (.agg [.flat (.int .i64 sy),.flat (.int .i64 sa),.flat (.int .i64 so)])) (hx:DFun Try.prog 55 [.agg [.flat (.int .i64 sy),.flat (.int .i64 sa),.flat (.int .i64 so)],.agg [.sl false 1 nR LR,.sl false 1 n LB,.sl false 1 nT LT],.flat (.int .i64 p)] (.flat (.int .i64 x))) (hy:DFun Try.prog 55 [.agg [.flat (.int .i64 sy),.flat (.int .i64 sa),.flat (.int .i64 so)],.agg [.sl false 1 nR LR,.sl false 1 n LB,.sl false 1 nT LT],.flat (.int .i64 q)] (.flat (.int .i64 y))) (he:¬ x=y) (k:Nat) (hT:LookT Try.prog 101 KS (kvP x y) k) (hk:DS[k]?=some (D.flat (.bool true))):
  DW Try.prog 122 cc ⟨[(3,.ptr [.sl false 1 nR LR,.sl false 1 n LB,.sl false 1 nT LT] 0),(11,.sl false 3 m SC),(12,.mp 44),(13,.own 700 L),(14,.ref 14 0),(79,.sl false 3 m SC),(80,.flat (.int .i64 ((m:Nat):Int))),(81,.flat (.int .i64 ((i:Nat):Int)))],[(44,some (.box (.keys (KS)::DS))),(700,some (.row 104 3 L QC)),(14,some (.box [.flat (.int .i64 p),.flat (.int .i64 q),.sl false 3 wl WL]))]⟩ (Nm 122 ⟨[(3,.ptr [.sl false 1 nR LR,.sl false 1 n LB,.sl false 1 nT LT] 0),(11,.sl false 3 m SC),(12,.mp 44),(13,.own 700 L),(14,.ref 14 0),(79,.sl false 3 m SC),(80,.flat (.int .i64 ((m:Nat):Int))),(81,.flat (.int .i64 (((i+1):Nat):Int)))],[(44,some (.box (.keys (KS)::DS))),(700,some (.row 104 3 L QC)),(14,some (.box [.flat (.int .i64 p),.flat (.int .i64 q),.sl false 3 wl WL]))]⟩):=by
 refine DW.sel hsel (by rfl) ?_
 have hIs:=hg_ x y
 refine DW.walk ?_
 exact Nm.mk Sub.auto
theorem yx_ {cc:Code} (hsel:selC [1,1,1,1,1,0,1,2,2,1,0,2,1,1,1,2,2] ew_=some cc) (LR LB LT SC WL QC DS:List D) (KS:List Value) (n nR nT m i wl L:Nat) (p q sy sa so x y:Int) (hm:m≤5000000) (hi:i<m) (hwl:wl≤1000000) (hL:L≤1000000) (p1:persL LR=true) (p2:persL LB=true) (p3:persL LT=true) (p4:persL SC=true) (p5:persL WL=true) (p6:persL QC=true) (p7:persL DS=true) (hs:partD true 3 (i*3) SC=some (.agg [.flat (.int .i64 sy),.flat (.int .i64 sa),.flat (.int .i64 so)])) (hx:DFun Try.prog 55 [.agg [.flat (.int .i64 sy),.flat (.int .i64 sa),.flat (.int .i64 so)],.agg [.sl false 1 nR LR,.sl false 1 n LB,.sl false 1 nT LT],.flat (.int .i64 p)] (.flat (.int .i64 x))) (hy:DFun Try.prog 55 [.agg [.flat (.int .i64 sy),.flat (.int .i64 sa),.flat (.int .i64 so)],.agg [.sl false 1 nR LR,.sl false 1 n LB,.sl false 1 nT LT],.flat (.int .i64 q)] (.flat (.int .i64 y))) (he:¬ x=y) (hN:LookN Try.prog 101 KS (kvP x y)) (KS2:List Value) (DS2 QC2:List D) (hK2:KS++ [kvP x y]=KS2) (hD2:DS++ [D.flat (.bool true)]=DS2) (hQ2:QC++ [.flat (.int .i64 x),.flat (.int .i64 y),.sl false 3 (wl+1) (WL++ [.flat (.int .i64 sy),.flat (.int .i64 sa),.flat (.int .i64 so)])]=QC2) (p8:persL QC2=true) (p9:persL DS2=true) (hc:DLend Try.prog 56 [.sl false 3 wl WL] [(777,none)] [(777,some (.row 50 3 wl WL))] (.own 777 wl)) (hWn:persL (WL++ [.flat (.int .i64 sy),.flat (.int .i64 sa),.flat (.int .i64 so)])=true):
  DW Try.prog 122 cc ⟨[(3,.ptr [.sl false 1 nR LR,.sl false 1 n LB,.sl false 1 nT LT] 0),(11,.sl false 3 m SC),(12,.mp 44),(13,.own 700 L),(14,.ref 14 0),(79,.sl false 3 m SC),(80,.flat (.int .i64 ((m:Nat):Int))),(81,.flat (.int .i64 ((i:Nat):Int)))],[(44,some (.box (.keys (KS)::DS))),(700,some (.row 104 3 L QC)),(14,some (.box [.flat (.int .i64 p),.flat (.int .i64 q),.sl false 3 wl WL]))]⟩ (Nm 122 ⟨[(3,.ptr [.sl false 1 nR LR,.sl false 1 n LB,.sl false 1 nT LT] 0),(11,.sl false 3 m SC),(12,.mp 44),(13,.own 700 (L+1)),(14,.ref 14 0),(79,.sl false 3 m SC),(80,.flat (.int .i64 ((m:Nat):Int))),(81,.flat (.int .i64 (((i+1):Nat):Int)))],[(44,some (.box (.keys (KS2)::DS2))),(700,some (.row 104 3 (L+1) QC2)),(14,some (.box [.flat (.int .i64 p),.flat (.int .i64 q),.sl false 3 wl WL]))]⟩):=by
 refine DW.sel hsel (by rfl) ?_
 have hIs:=hg_ x y
 refine DW.walkTo 21 ?_
 rw [hK2,hD2]
 refine DW.regD rfl (by kernel_rfl) ?_
 refine DC.isOp ?_
 apply DC.is_move
 refine DC.k_move ?_
 refine DC.isOp ?_
 apply DC.is_load
 refine DC.k_load ?_
 refine DC.isOp ?_
 apply DC.is_fieldAddr
 refine DC.k_fieldAddr ?_
 refine DC.isOp ?_
 apply DC.is_load
 refine DC.k_load ?_
 refine DC.isOp ?_
 apply DC.is_callv
 refine DC.k_callv ?_
 refine DC.isOp ?_
 apply DC.is_load
 refine DC.k_load ?_
 refine DC.isOp ?_
 apply DC.is_buildSlice
 refine DC.k_buildSlice ?_
 refine DC.t (T.appendGive _ _ _ TySl.h TyIn.h rfl (by decide) (by decide) Le.full rfl (by omega) hWn) ⟨rfl,rfl,trivial⟩ ⟨rfl,trivial⟩ ?_
 refine DC.walk ?_
 rw [hQ2]
 exact Nm.mk Sub.auto
end Go.Proofs.Ytichhfbkhnimmaa
