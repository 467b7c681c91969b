/- Structs of three numbers compared. No condition. -/
import Derived.Test.YtichhfbkhnimmaaYEA
import Derived.Test.YtichhfbkhnimmaaYD1
import Derived.Test.YtichhfbkhnimmaaYAP
import Derived.Test.YtichhfbkhnimmaaYEO
import Derived.Test.YtichhfbkhnimmaaYFO
import Derived.Test.YtichhfbkhnimmaaYPD
import Derived.Test.YtichhfbkhnimmaaYD7
set_option linter.unusedSimpArgs false
set_option linter.unusedVariables false
set_option maxHeartbeats 4000000
set_option maxRecDepth 8000
namespace Go.Proofs.Ytichhfbkhnimmaa
open Go Go.RowKit Go.PP Go.Dm Go.Rt Go.Mn
theorem run_eqI3 (w:World) (a b c:Int):(Op.equalIn 10000 50 (.agg #[.int .i64 a,.int .i64 b,.int .i64 c]) (.agg #[.int .i64 a,.int .i64 b,.int .i64 c])).run Try.prog w= .ok true w:=by
 have ht:Try.prog.underlying 50=some (.struct (Try.prog.fieldsOf 50)):=by kernel_rfl
 have hp:Try.prog.stoodInHeld 50=false:=by kernel_rfl
 obtain⟨f1,f2,f3,h1,n1,n2,n3,o1,o2,o3,t1,t2,t3⟩:∃ f1 f2 f3:Field,(Try.prog.fieldsOf 50).toList=[f1,f2,f3]∧f1.name≠ "_" ∧f2.name≠ "_" ∧f3.name≠ "_" ∧f1.offset=0∧f2.offset=1∧f3.offset=2∧f1.type=3∧f2.type=3∧f3.type=3:=⟨_,_,_,(by unfold Program.fieldsOf;rw [Try.underlying50]),by decide,by decide,by decide,rfl,rfl,rfl,rfl,rfl,rfl⟩
 have hu:Try.prog.underlying 3=some (.int .i64):=by kernel_rfl
 have hag:aggOf Try.prog 3=some false:=by unfold aggOf;rw [hu];rfl
 have hpart:∀ (cs:Array Value) (o:Nat) (v:Value),cs[o]?=some v→(part 3 cs o).run Try.prog w= .ok v w:=fun cs o v hc=>by
  simp only [part,Sem.run_bind,run_isAgg hag,Result.andThen_ok,Bool.false_eq_true,if_false,hc,Sem.run_pure]
 rw [run_equalIn_struct w 9999 50 _ _ ht hp,h1]
 simp only [Op.eqFields,n1,n2,n3,ne_eq,not_false_eq_true,if_true,Sem.run_bind,o1,o2,o3,t1,t2,t3]
 rw [hpart _ 0 (.int .i64 a) rfl]
 simp only [Result.andThen_ok]
 rw [hpart _ 0 (.int .i64 a) rfl]
 simp only [Result.andThen_ok]
 rw [run_equalIn_int w 9998 3 .i64 .i64 a a hu]
 simp only [Result.andThen_ok,beq_self_eq_true,Bool.not_true,Bool.false_eq_true,if_false,Sem.run_bind]
 rw [hpart _ 1 (.int .i64 b) rfl]
 simp only [Result.andThen_ok]
 rw [hpart _ 1 (.int .i64 b) rfl]
 simp only [Result.andThen_ok]
 rw [run_equalIn_int w 9998 3 .i64 .i64 b b hu]
 simp only [Result.andThen_ok,beq_self_eq_true,Bool.not_true,Bool.false_eq_true,if_false,Sem.run_bind]
 rw [hpart _ 2 (.int .i64 c) rfl]
 simp only [Result.andThen_ok]
 rw [hpart _ 2 (.int .i64 c) rfl]
 simp only [Result.andThen_ok]
 rw [run_equalIn_int w 9998 3 .i64 .i64 c c hu]
 simp [Sem.run_pure]
theorem neqS3 {N:Nat} {dst:Option Tmp} {ty:TypeId} {pos:String} {af:Array Edge} {gd:Option (Nat × Bool)} {ty':TypeId} {x y:Operand} {a b c:Int}:
  Tri Try.prog N ⟨dst,.binOp .neq 50 x y ty',ty,pos,af,gd⟩ [(x,.agg [.flat (.int .i64 a),.flat (.int .i64 b),.flat (.int .i64 c)]),(y,.agg [.flat (.int .i64 a),.flat (.int .i64 b),.flat (.int .i64 c)])] [] (.flat (.bool false)) []:=Tri.val fun M w G ρ hv=>by
 have hr:∀ u:Value,Rep M w G (.agg [.flat (.int .i64 a),.flat (.int .i64 b),.flat (.int .i64 c)]) u→u= .agg #[.int .i64 a,.int .i64 b,.int .i64 c]:=fun u h=>by
  simp only [Rep,RepL] at h
  obtain⟨vs,rfl,u1,us,rfl,rfl,u2,us2,rfl,rfl,u3,us3,rfl,rfl,rfl⟩:=h
  rfl
 have hp:=hr _ hv.1
 have hq:=hr _ hv.2.1
 have hg:Try.prog.eqGuardType Try.prog.depth 50=false:=by kernel_rfl
 refine⟨.bool false,?_,by simp only [Rep]⟩
 simp only [execOp,hp,hq,Sem.run_bind,run_eqGuard_agg w .neq 50 x y _ _ hg,Result.andThen_ok,run_neq_struct,run_eqI3,Sem.run_pure]
 simp
theorem right_split {A:Au} (h:rightB A=true):fewB A=true∧chk A=0:=by
 unfold rightB at h
 rw [Bool.and_eq_true] at h
 exact⟨h.1,of_decide_eq_true h.2⟩
theorem dist_yes (A:Au) (hk:chk A=0) (p q d:Nat) (hp:p<A.final.length) (hq:q<A.final.length) (hv:farA A p q=(d:Int)):DFun Try.prog 20 [auD A,.flat (.int .i64 ((p:Nat):Int)),.flat (.int .i64 ((q:Nat):Int))] (.tup [.sl false 3 (apartL A d p q).length (spC (wordS A (apartL A d p q))),.flat (.bool true),.flat (.int .i64 0)]):=by
 have hap:=apart_least d p q (far_pos.1 hv).1 (far_pos.1 hv).2
 refine dist_walk A hk p q ⟨by omega,by omega⟩ ⟨by omega,by omega⟩ _ (fun l h1 h2=>?_) (fun h=>?_)
 ·rw [sle_antisymm (h2 _ hap.1) (hap.2.2 l h1)]
 ·exact absurd ((farA_neg (chk_ok hk) hp hq).2 h) (by rw [hv];omega)
theorem dist_not (A:Au) (hk:chk A=0) (p q:Nat) (hp:p<A.final.length) (hq:q<A.final.length) (hv:farA A p q<0):DFun Try.prog 20 [auD A,.flat (.int .i64 ((p:Nat):Int)),.flat (.int .i64 ((q:Nat):Int))] (.tup [.flat (.slice none 0 0),.flat (.bool false),.flat (.int .i64 0)]):=by
 have he:=(farA_neg (chk_ok hk) hp hq).1 hv
 exact dist_walk A hk p q ⟨by omega,by omega⟩ ⟨by omega,by omega⟩ _ (fun l h1 h2=>absurd (distW_of h1) (he _)) (fun h=>rfl)
theorem far_or {A:Au} {p q:Int} (h:¬ farA A p q<0):∃ d:Nat,farA A p q=(d:Int)∧d≤A.final.length:=by
 obtain⟨d,hd⟩:=Int.eq_ofNat_of_zero_le (show 0≤farA A p q by omega)
 exact⟨d,hd,(far_pos.1 hd).1⟩
theorem clsU_at {A:Au} {p:Nat} (h:p<A.final.length):(clsU A)[p]?=some ((clsA A p:Nat):Int):=by simp [clsU,h]
theorem finI_part {A:Au} {x:Nat} (h:x<A.final.length):partD false 1 (x*1) (A.final.map fun x=>D.flat (.bool x))=some (.flat (.bool (finI A (x:Int)))):=by
 refine part_b ?_
 unfold finI
 rw [Int.toNat_natCast,List.getD_eq_getElem?_getD,List.getElem?_eq_getElem h];rfl
theorem law4_no (A:Au) (p q:Int) (h:rightB A=false):DFun Try.prog 4 [auD A,.flat (.int .i64 p),.flat (.int .i64 q)] (.flat (.bool true)):=by
 have hkn:=known_d
 have hr:=right_d A
 rw [h] at hr
 have q1:=pers_i A.ranks
 have q2:=pers_b A.final
 have q3:=pers_r A.to
 rw [auD_eq A] at hr ⊢
 generalize (A.ranks.map fun x=>D.flat (.int .i64 x))=LR at*
 generalize (A.final.map fun x=>D.flat (.bool x))=LB at*
 generalize rowsL A.to=LT at*
 generalize A.ranks.length=lr at*
 generalize A.final.length=n at*
 generalize A.to.length=lt at*
 refine DFun.enterA Try.func4 Try.ntmps4 ?_
 refine DW.walk ?_
 exact⟨.inr rfl,ResOk.one [] rfl rfl trivial (Vw.pers rfl)⟩
theorem law4_rng (A:Au) (p q:Int) (h:rightB A=true) (hb:¬ (InA A p∧InA A q)):DFun Try.prog 4 [auD A,.flat (.int .i64 p),.flat (.int .i64 q)] (.flat (.bool true)):=by
 have hkn:=known_d
 have hr:=right_d A
 rw [h] at hr
 have hfr:=from_d A
 have hd:=dist_rng A (right_split h).2 p q hb
 unfold InA at hb
 have q1:=pers_i A.ranks
 have q2:=pers_b A.final
 have q3:=pers_r A.to
 rw [auD_eq A] at hr hfr hd ⊢
 generalize (A.ranks.map fun x=>D.flat (.int .i64 x))=LR at*
 generalize (A.final.map fun x=>D.flat (.bool x))=LB at*
 generalize rowsL A.to=LT at*
 generalize A.ranks.length=lr at*
 generalize A.final.length=n at*
 generalize A.to.length=lt at*
 refine DFun.enterA Try.func4 Try.ntmps4 ?_
 by_cases c1:p<0
 ·refine DW.walk ?_
  exact⟨.inr rfl,ResOk.one [] rfl rfl trivial (Vw.pers rfl)⟩
 ·by_cases c2:q<0
  ·refine DW.walk ?_
   exact⟨.inr rfl,ResOk.one [] rfl rfl trivial (Vw.pers rfl)⟩
  ·by_cases c3:p<(n:Int)
   ·    have c4:¬ q<(n:Int):=by omega
        refine DW.walk ?_
        exact⟨.inr rfl,ResOk.one [] rfl rfl trivial (Vw.pers rfl)⟩
   ·    refine DW.walk ?_
        exact⟨.inr rfl,ResOk.one [] rfl rfl trivial (Vw.pers rfl)⟩
theorem law4_eq (A:Au) (p q:Nat) (h:rightB A=true) (hp:p<A.final.length) (hq:q<A.final.length) (hf:DFun Try.prog 51 [auD A] (.sl false 1 A.final.length (farD A))) (hv:farA A p q<0):DFun Try.prog 4 [auD A,.flat (.int .i64 ((p:Nat):Int)),.flat (.int .i64 ((q:Nat):Int))] (.flat (.bool true)):=by
 obtain⟨_,hk⟩:=right_split h
 have hok:=chk_ok hk
 have hkn:=known_d
 have hr:=right_d A
 rw [h] at hr
 have hfr:=from_d A
 have hd:=dist_not A hk p q hp hq hv
 have ha:=apart_no A hok hf p q hp hq hv
 have hcl:=classesE_d A hk
 have hUl:(clsU A).length=A.final.length:=by simp [clsU]
 have hn:=hok.hi
 have hcn:=conn0_d (clsU A) (clsU_flat hok) (by omega) p q _ _ (clsU_at hp) (clsU_at hq)
 have he:clsA A p=clsA A q:=(cls_eq hok hp hq).2 ((farA_neg hok hp hq).1 hv)
 rw [he] at hcn
 rw [decide_eq_true rfl] at hcn
 have y0:=pers_i (clsU A)
 rw [hUl] at hcn
 clear hf hv
 generalize ((clsU A).map fun x=>D.flat (.int .i64 x))=CU at*
 have q1:=pers_i A.ranks
 have q2:=pers_b A.final
 have q3:=pers_r A.to
 rw [auD_eq A] at hr hfr hd ha hcl ⊢
 generalize (A.ranks.map fun x=>D.flat (.int .i64 x))=LR at*
 generalize (A.final.map fun x=>D.flat (.bool x))=LB at*
 generalize rowsL A.to=LT at*
 generalize A.ranks.length=lr at*
 generalize A.final.length=n at*
 generalize A.to.length=lt at*
 refine DFun.enterA Try.func4 Try.ntmps4 ?_
 refine DW.walk ?_
 refine DW.loopA (fun _:Unit=>⟨[(3,.ref 3 0),(9,.flat (.bool false)),(12,.flat (.slice none 0 0)),(16,.flat (.int .i64 ((0:Nat):Int))),(1,.flat (.int .i64 ((p:Nat):Int))),(2,.flat (.int .i64 ((q:Nat):Int)))],[(3,some (.box [.sl false 1 lr LR,.sl false 1 n LB,.sl false 1 lt LT]))]⟩) (fun _=>True) (fun _=>0) () ?_ trivial
 intro _ _
 refine DW.walk ?_
 exact⟨.inr rfl,ResOk.one [] rfl rfl trivial (Vw.pers rfl)⟩
theorem spC_cell {l:List Sp} {j:Nat} {s:Sp} (h:l[j]?=some s):partD false 1 (j*3+0) (spC l)=some (.flat (.int .i64 s.sym))∧partD false 1 (j*3+1) (spC l)=some (.flat (.int .i64 s.at_))∧partD false 1 (j*3+2) (spC l)=some (.flat (.int .i64 s.other)):=by
 have hd:=spC_drop h
 have key:∀ k,k<3→(spC l)[j*3+k]?=[D.flat (.int .i64 s.sym),D.flat (.int .i64 s.at_),D.flat (.int .i64 s.other)][k]?:=fun k hk=>by
  rw [← hd,List.getElem?_take,if_pos hk,List.getElem?_drop]
 have k0:=key 0 (by omega)
 have k1:=key 1 (by omega)
 have k2:=key 2 (by omega)
 unfold partD
 simp only [Bool.false_eq_true,if_false,k0,k1,k2]
 exact⟨rfl,rfl,rfl⟩
noncomputable abbrev code4:Code:=Try.f4.body.getD .skip
theorem law4_in {cc:Code} (hsel:selC [1,1,1,1,1,1,1,1,1,0,1,2,2,1,0,2] code4=some cc) (A:Au) (hok:AuOk A) (l:List Nat) (hl:∀ i∈l,i<(stepsA A).length) (hll:l.length≤1000) (i a b x y:Nat) (st:Sp) (hi:i<l.length) (hs:(wordS A l)[i]?=some st) (hst:SpOk A st) (ha:a<A.final.length) (hb:b<A.final.length) (hx:nextI A st a=(x:Int)) (hy:nextI A st b=(y:Int)):
  DW Try.prog 161 cc ⟨[(3,.ref 3 0),(8,.sl false 3 l.length (spC (wordS A l))),(9,.flat (.bool true)),(12,.sl false 3 l.length (spC (wordS A l))),(16,.flat (.int .i64 ((i:Nat):Int))),(1,.flat (.int .i64 a)),(2,.flat (.int .i64 b))],[(3,some (.box [.sl false 1 A.ranks.length (A.ranks.map fun x=>D.flat (.int .i64 x)),.sl false 1 A.final.length (A.final.map fun x=>D.flat (.bool x)),.sl false 1 A.to.length (rowsL A.to)]))]⟩ (Nm 161 ⟨[(3,.ref 3 0),(8,.sl false 3 l.length (spC (wordS A l))),(9,.flat (.bool true)),(12,.sl false 3 l.length (spC (wordS A l))),(16,.flat (.int .i64 ((i:Nat):Int))),(1,.flat (.int .i64 x)),(2,.flat (.int .i64 y))],[(3,some (.box [.sl false 1 A.ranks.length (A.ranks.map fun x=>D.flat (.int .i64 x)),.sl false 1 A.final.length (A.final.map fun x=>D.flat (.bool x)),.sl false 1 A.to.length (rowsL A.to)]))]⟩):=by
 have g1:=go_d A hok st hst a ⟨by omega,by omega⟩
 have g2:=go_d A hok st hst b ⟨by omega,by omega⟩
 rw [hx] at g1
 rw [hy] at g2
 have hgs:=spC_get hs
 obtain⟨z0,z1,z2⟩:=spC_cell hs
 have q4:=spC_pers (wordS A l)
 have hw:(wordS A l).length=l.length:=by simp [wordS]
 have q1:=pers_i A.ranks
 have q2:=pers_b A.final
 have q3:=pers_r A.to
 simp only [auD_eq A,spD] at g1 g2
 obtain⟨s1,s2,s3⟩:=st
 simp only at g1 g2 hgs z0 z1 z2
 clear hs hst hx hy hl
 generalize (A.ranks.map fun x=>D.flat (.int .i64 x))=LR at*
 generalize (A.final.map fun x=>D.flat (.bool x))=LB at*
 generalize rowsL A.to=LT at*
 generalize spC (wordS A l)=SP at*
 generalize A.ranks.length=lr at*
 generalize A.final.length=n at*
 generalize A.to.length=lt at*
 generalize l.length=L at*
 refine DW.sel hsel (by rfl) ?_
 refine DW.walkTo 15 ?_
 refine DW.regD rfl (by kernel_rfl) ?_
 refine DC.walk ?_
 refine DC.t neqS3 ⟨rfl,rfl,trivial⟩ trivial ?_
 refine DC.walk ?_
 exact Nm.mk Sub.auto
theorem law4_far (A:Au) (p q d:Nat) (h:rightB A=true) (hp:p<A.final.length) (hq:q<A.final.length) (hf:DFun Try.prog 51 [auD A] (.sl false 1 A.final.length (farD A))) (hv:farA A p q=(d:Int)):DFun Try.prog 4 [auD A,.flat (.int .i64 ((p:Nat):Int)),.flat (.int .i64 ((q:Nat):Int))] (.flat (.bool true)):=by
 obtain⟨_,hk⟩:=right_split h
 have hok:=chk_ok hk
 have hkn:=known_d
 have hr:=right_d A
 rw [h] at hr
 have hfr:=from_d A
 have hd:=dist_yes A hk p q d hp hq hv
 have ha:=apart_yes A hok hf p q d hp hq hv
 have hcl:=classesE_d A hk
 have hUl:(clsU A).length=A.final.length:=by simp [clsU]
 have hn:=hok.hi
 have hcn:=conn0_d (clsU A) (clsU_flat hok) (by omega) p q _ _ (clsU_at hp) (clsU_at hq)
 have hne:¬ ((clsA A p:Nat):Int)=((clsA A q:Nat):Int):=fun e=>absurd ((farA_neg hok hp hq).2 ((cls_eq hok hp hq).1 (by omega))) (by rw [hv];omega)
 rw [decide_eq_false hne] at hcn
 obtain⟨⟨hdw,hdf⟩,hlen,_⟩:=apart_least d p q (far_pos.1 hv).1 (far_pos.1 hv).2
 have hdn:=(far_pos.1 hv).1
 have hrow:=fun (cc:Code) (hs:selC [1,1,1,1,1,1,1,1,1,0,1,2,2,1,0,2] code4=some cc)=>law4_in hs A hok (apartL A d p q) hdw (by omega)
 have hin:∀ (k:Nat) (x:Int),InA A x→InA A (nextL A (wordS A ((apartL A d p q).take k)) x):=fun k x hx=>nextL_in hok (fun s hs=>by
  obtain⟨i,hi,rfl⟩:=List.mem_map.1 hs
  exact spAt_mem (hdw i (List.mem_of_mem_take hi))) hx
 have hstep:∀ (k:Nat) (x:Int),k<(apartL A d p q).length→nextL A (wordS A ((apartL A d p q).take (k+1))) x=nextI A (spAt A ((apartL A d p q).getD k 0)) (nextL A (wordS A ((apartL A d p q).take k)) x):=fun k x hk=>by
  rw [List.take_add_one,List.getElem?_eq_getElem hk]
  unfold wordS
  rw [Option.toList_some,List.map_append,List.map_cons,List.map_nil,nextL_snoc,List.getD_eq_getElem?_getD,List.getElem?_eq_getElem hk]
  rfl
 have hsp:∀ k,k<(apartL A d p q).length→(wordS A (apartL A d p q))[k]?=some (spAt A ((apartL A d p q).getD k 0))∧SpOk A (spAt A ((apartL A d p q).getD k 0)):=fun k hk=>by
  have h1:(apartL A d p q)[k]?=some ((apartL A d p q).getD k 0):=by rw [List.getD_eq_getElem?_getD,List.getElem?_eq_getElem hk];rfl
  refine⟨by unfold wordS;rw [List.getElem?_map,h1];rfl,mem_steps.1 (spAt_mem (hdw _ (List.mem_of_getElem? h1)))⟩
 have hfin:∀ x:Nat,x<A.final.length→partD false 1 (x*1) (A.final.map fun x=>D.flat (.bool x))=some (.flat (.bool (finI A (x:Int)))):=fun x h=>finI_part h
 have ip:InA A p:=⟨by omega,by omega⟩
 have iq:InA A q:=⟨by omega,by omega⟩
 have q4:=spC_pers (wordS A (apartL A d p q))
 have y0:=pers_i (clsU A)
 rw [hUl] at hcn
 unfold InA at hin ip iq
 clear hf hv
 generalize apartL A d p q=l at*
 generalize ((clsU A).map fun x=>D.flat (.int .i64 x))=CU at*
 have q1:=pers_i A.ranks
 have q2:=pers_b A.final
 have q3:=pers_r A.to
 rw [auD_eq A] at hr hfr hd ha hcl ⊢
 generalize (A.ranks.map fun x=>D.flat (.int .i64 x))=LR at*
 generalize (A.final.map fun x=>D.flat (.bool x))=LB at*
 generalize rowsL A.to=LT at*
 generalize A.ranks.length=lr at*
 generalize A.final.length=n at*
 generalize A.to.length=lt at*
 generalize spC (wordS A l)=SP at*
 generalize hL:l.length=L at*
 refine DFun.enterA Try.func4 Try.ntmps4 ?_
 refine DW.walk ?_
 refine DW.loopA (fun i:Nat=>⟨[(3,.ref 3 0),(8,.sl false 3 L SP),(9,.flat (.bool true)),(12,.sl false 3 L SP),(16,.flat (.int .i64 ((i:Nat):Int))),(1,.flat (.int .i64 (nextL A (wordS A (l.take i)) p))),(2,.flat (.int .i64 (nextL A (wordS A (l.take i)) q)))],[(3,some (.box [.sl false 1 lr LR,.sl false 1 n LB,.sl false 1 lt LT]))]⟩) (fun i=>i≤L) (fun i=>L - i) 0 ?_ (Nat.zero_le _) (by show Sub _ _ ⟨[(3,.ref 3 0),(8,.sl false 3 L SP),(9,.flat (.bool true)),(12,.sl false 3 L SP),(16,.flat (.int .i64 ((0:Nat):Int))),(1,.flat (.int .i64 ((p:Nat):Int))),(2,.flat (.int .i64 ((q:Nat):Int)))],[(3,some (.box [.sl false 1 lr LR,.sl false 1 n LB,.sl false 1 lt LT]))]⟩;exact Sub.auto)
 intro i hi
 obtain⟨a0,a1⟩:=hin i p ip
 obtain⟨b0,b1⟩:=hin i q iq
 rcases Nat.lt_or_ge i L with hlt|hge
 ·have   hs1:=hstep i p hlt
  have hs2:=hstep i q hlt
  obtain⟨c0,c1⟩:=hin (i+1) p ip
  obtain⟨e0,e1⟩:=hin (i+1) q iq
  obtain⟨g1,g2⟩:=hsp i hlt
  generalize (nextL A (wordS A (l.take i)) p)=x0 at*
  generalize (nextL A (wordS A (l.take i)) q)=y0' at*
  obtain⟨a,rfl⟩:=Int.eq_ofNat_of_zero_le a0
  obtain⟨b,rfl⟩:=Int.eq_ofNat_of_zero_le b0
  generalize hx1:(nextL A (wordS A (l.take (i+1))) p)=x1 at*
  generalize hy1:(nextL A (wordS A (l.take (i+1))) q)=y1 at*
  obtain⟨x,rfl⟩:=Int.eq_ofNat_of_zero_le c0
  obtain⟨y,rfl⟩:=Int.eq_ofNat_of_zero_le e0
  have hr1:=hrow _ (by rfl) i a b x y _ hlt g1 g2 (by omega) (by omega) hs1.symm hs2.symm
  clear hrow hin hstep hsp hfin hdw hs1 hs2 g1 g2
  refine DW.seq ?_
  refine DW.cut ⟨[(3,.ref 3 0),(8,.sl false 3 L SP),(9,.flat (.bool true)),(12,.sl false 3 L SP),(16,.flat (.int .i64 ((i:Nat):Int))),(1,.flat (.int .i64 ((a:Nat):Int))),(2,.flat (.int .i64 ((b:Nat):Int)))],[(3,some (.box [.sl false 1 lr LR,.sl false 1 n LB,.sl false 1 lt LT]))]⟩ ?_ ?_
  ·refine DW.walk ?_
   exact Nm.mk Sub.auto
  ·refine DW.seq ?_
   refine DW.cut ⟨[(3,.ref 3 0),(8,.sl false 3 L SP),(9,.flat (.bool true)),(12,.sl false 3 L SP),(16,.flat (.int .i64 ((i:Nat):Int))),(1,.flat (.int .i64 ((x:Nat):Int))),(2,.flat (.int .i64 ((y:Nat):Int)))],[(3,some (.box [.sl false 1 lr LR,.sl false 1 n LB,.sl false 1 lt LT]))]⟩ ?_ ?_
   ·    refine DW.block ?_
        refine hr1.mono ?_
        rintro e s' ⟨rfl,hsub⟩
        exact Blk.n ⟨rfl,hsub⟩
   ·    refine DW.walk ?_
        exact⟨i+1,by omega,by omega,by show Sub _ _ ⟨[(3,.ref 3 0),(8,.sl false 3 L SP),(9,.flat (.bool true)),(12,.sl false 3 L SP),(16,.flat (.int .i64 (((i+1):Nat):Int))),(1,.flat (.int .i64 (nextL A (wordS A (l.take (i+1))) p))),(2,.flat (.int .i64 (nextL A (wordS A (l.take (i+1))) q)))],[(3,some (.box [.sl false 1 lr LR,.sl false 1 n LB,.sl false 1 lt LT]))]⟩;rw [hx1,hy1];exact Sub.auto⟩
 ·obtain rfl:L=i:=by omega
  rw [← hL,List.take_length] at*
  generalize nextL A (wordS A l) (p:Int)=x0 at*
  generalize nextL A (wordS A l) (q:Int)=y0' at*
  obtain⟨a,rfl⟩:=Int.eq_ofNat_of_zero_le a0
  obtain⟨b,rfl⟩:=Int.eq_ofNat_of_zero_le b0
  have f1:=hfin a (by omega)
  have f2:=hfin b (by omega)
  clear hrow hin hstep hsp hfin hdw
  generalize finI A (a:Int)=u at*
  generalize finI A (b:Int)=v at*
  rw [hL]
  cases u <;> cases v
  ·exact absurd rfl hdf
  ·refine DW.walk ?_
   exact⟨.inr rfl,ResOk.one [] rfl rfl trivial (Vw.pers rfl)⟩
  ·refine DW.walk ?_
   exact⟨.inr rfl,ResOk.one [] rfl rfl trivial (Vw.pers rfl)⟩
  ·exact absurd rfl hdf
theorem law4_all (A:Au) (p q:Int):DFun Try.prog 4 [auD A,.flat (.int .i64 p),.flat (.int .i64 q)] (.flat (.bool true)):=by
 cases hr:rightB A with
 |false=>exact law4_no A p q hr
 |true   =>
  obtain⟨h1,hk⟩:=right_split hr
  by_cases hb:InA A p∧InA A q
  ·obtain⟨⟨a0,a1⟩,b0,b1⟩:=hb
   obtain⟨a,rfl⟩:=Int.eq_ofNat_of_zero_le a0
   obtain⟨b,rfl⟩:=Int.eq_ofNat_of_zero_le b0
   have hf:=far51_d A (chk_ok hk) (of_decide_eq_true h1).1
   by_cases hv:farA A a b<0
   ·exact law4_eq A a b hr (by omega) (by omega) hf hv
   ·    obtain⟨d,hd,_⟩:=far_or hv
        exact law4_far A a b d hr (by omega) (by omega) hf hd
  ·exact law4_rng A p q hr hb
end Go.Proofs.Ytichhfbkhnimmaa
