/- The quotient. No condition. -/
import Derived.Test.YtichhfbkhnimmaaYQT
set_option linter.unusedSimpArgs false
set_option linter.unusedVariables false
set_option maxHeartbeats 4000000
set_option maxRecDepth 8000
namespace Go.Proofs.Ytichhfbkhnimmaa
open Go Go.RowKit Go.PP Go.Dm Go.Rt Go.Mn
theorem clsU_get {A:Au} {p:Nat} (h:p<A.final.length):(clsU A)[p]?=some ((clsA A p:Nat):Int):=by simp [clsU,h]
theorem clsU_flat {A:Au} (hok:AuOk A):Flat (clsU A):=⟨fun a x h=>by
 have ha:a<A.final.length:=by have:=(List.getElem?_eq_some_iff.1 h).1;simpa [clsU] using this
 rw [clsU_get ha] at h
 have h1:=(cls_spec hok ha).1
 exact⟨clsA A a,(Option.some.inj h).symm,h1,by rw [clsU_get (by omega),cls_cls hok ha]⟩⟩
theorem clsU_len (A:Au):(clsU A).length=A.final.length:=by simp [clsU]
theorem quotient_d (A:Au) (hk:chk A=0):
  DLend Try.prog 99 [auD A] [(38,none)] [(38,some (.row 3 1 A.final.length (((List.range A.final.length).map (toQ A)).map fun x=>D.flat (.int .i64 x))))] (.tup [auD (quoA A (repsA A)),.own 38 A.final.length]):=by
 have hok:=chk_ok hk
 have hcl:=classes_d A hk
 have hre:=reach_d A (few_of hok)
 rw [reachE_ok hk] at hre
 have hlb:(isB A.final.length (foundA A)).length=A.final.length:=isB_len _ _
 have hgb:∀ o:Nat,o<A.final.length→partD false 1 (o*1) ((isB A.final.length (foundA A)).map fun x=>D.flat (.bool x))=some (.flat (.bool (decide ((o:Int)∈foundA A)))):=fun o h=>part_b (isB_get h _)
 have hfd:∀ p:Nat,p<A.final.length→DLend Try.prog 18 [.ref 225626701274425600001 0,.flat (.int .i64 ((p:Nat):Int))] [(225626701274425600001,some (.box [.own 225626701274425600002 A.final.length])),(225626701274425600002,some (.row 3 1 A.final.length ((clsU A).map fun x=>D.flat (.int .i64 x))))] [(225626701274425600001,some (.box [.own 225626701274425600002 A.final.length])),(225626701274425600002,some (.row 3 1 A.final.length ((clsU A).map fun x=>D.flat (.int .i64 x))))] (.tup [.flat (.int .i64 (((clsA A p):Nat):Int)),.flat (.int .i64 0)]):=fun p hp=>by
  have h:=find0_d (clsU A) (clsU_flat hok) (by rw [clsU_len];have:=hok.hi;omega) p (clsA A p) (clsU_get hp)
  rw [clsU_len] at h
  exact h
 have hnn:=hok.hi
 have hlo:=hok.lo
 have hTl:A.to.length=A.ranks.length:=hok.len
 have hset:=fun j (h:j<A.final.length)=>fillF_set (f:=toQ A) h
 have hlen:=fun j (h:j≤A.final.length)=>fillF_len (f:=toQ A) h
 have hpI:=fun U:List Int=>pers_i U
 have hpF:=pers_b (isB A.final.length (foundA A))
 have hpd:∀ j,persL (dsQ A j)=true:=fun j=>persL_map (f:=fun i:Nat=>D.flat (.int .i64 (i:Int))) (fun _=>rfl) (List.range (repsJ A j).length)
 have hNew:=fun j (hj:j<A.final.length) (hf:(j:Int)∈foundA A) (hp:predA A j=true)=>And.intro (lookQ_new hok hj hf hp) (lookQ_put hok hj hf hp)
 have hOld:=fun j (hj:j<A.final.length) (hf:(j:Int)∈foundA A) (hp:predA A j≠true)=>lookQ_old hok hj hf hp
 have hk0:ksQ A 0=[]:=rfl
 have hd0:dsQ A 0=[]:=rfl
 have hr0:repsJ A 0=[]:=rfl
 have hok0:=ksQ_ok hok (Nat.zero_le _)
 have hrl:=fun j=>repsJ_len A j
 have hpu:=pers_i (clsU A)
 have q1:=pers_i A.ranks
 have q2:=pers_b A.final
 have q3:=pers_r A.to
 rw [auD_eq A] at*
 rw [hTl] at hcl hre ⊢
 rw [hlb] at hre
 have hrall:=repsJ_all A
 have hFB:∀ (t:Nat) (b:Bool),A.final[t]?=some b→partD false 1 (t*1) (A.final.map fun x=>D.flat (.bool x))=some (.flat (.bool b)):=fun t b h=>part_b h
 have hRK:∀ (t:Nat) (b:Int),A.ranks[t]?=some b→partD false 1 (t*1) (A.ranks.map fun x=>D.flat (.int .i64 x))=some (.flat (.int .i64 b)):=fun t b h=>part_i h
 have hTO:∀ (t:Nat) (b:List Int),A.to[t]?=some b→partD false 1 (t*1) (rowsL A.to)=some (.sl false 1 b.length (b.map fun x=>D.flat (.int .i64 x))):=fun t b h=>part_r h
 generalize ((isB A.final.length (foundA A)).map fun x=>D.flat (.bool x))=LF at*
 generalize hLRe:(A.ranks.map fun x=>D.flat (.int .i64 x))=LR at*
 generalize hLBe:(A.final.map fun x=>D.flat (.bool x))=LB at*
 generalize hLTe:rowsL A.to=LT at*
 generalize ((clsU A).map fun x=>D.flat (.int .i64 x))=LU at*
 generalize hnA:A.final.length=n at*
 have hz:List.replicate n (D.flat (.int .i64 0))=((fillF (toQ A) n 0).map fun x=>D.flat (.int .i64 x)):=by rw [fillF_zero];simp
 refine DLend.enterA Try.func99 Try.ntmps99 ?_
 refine DW.walkTo 6 ?_
 refine DW.adopt 9 110 3 1 rfl rfl ?_
 refine DW.walk ?_
 refine DW.loopA (fun j:Nat=>⟨[(1,.ptr [.sl false 1 A.ranks.length LR,.sl false 1 n LB,.sl false 1 A.ranks.length LT] 0),(2,.ref 2 0),(4,.ref 225626701274425600001 0),(5,.sl false 1 n LF),(7,.mp 35),(8,.own 38 n),(9,.own 110 (repsJ A j).length),(39,.sl false 1 n LF),(40,.flat (.int .i64 ((n:Nat):Int))),(41,.flat (.int .i64 ((j:Nat):Int)))],[(2,some (.box [.flat (.slice none 0 0),.flat (.slice none 0 0),.flat (.slice none 0 0)])),(225626701274425600001,some (.box [.own 225626701274425600002 n])),(225626701274425600002,some (.row 3 1 n LU)),(35,some (.box (.keys (ksQ A j)::dsQ A j))),(38,some (.row 3 1 n ((fillF (toQ A) n j).map fun x=>D.flat (.int .i64 x)))),(110,some (.row 3 1 (repsJ A j).length ((repsJ A j).map fun x=>D.flat (.int .i64 x))))]⟩) (fun j=>j≤n) (fun j=>n - j) 0 ?_ (Nat.zero_le _) (by rw [hk0,hd0,hr0];have hp0:=hpI (fillF (toQ A) n 0);rw [← hz] at hp0 ⊢;generalize (List.replicate n (D.flat (.int .i64 0)))=RZ at *;exact Sub.auto)
 intro j hj
 rcases Nat.lt_or_ge j n with hlt|hge
 ·have   hg:=hgb j hlt
  have hs:=hset j hlt
  have hl2:(((fillF (toQ A) n j).map fun x=>D.flat (.int .i64 x))).length=n:=by rw [List.length_map];exact hlen j hj
  have t0:=hpI (fillF (toQ A) n j)
  have t1:=hpI (fillF (toQ A) n (j+1))
  have u0:=hpI (repsJ A j)
  have u1:=hpI (repsJ A (j+1))
  have d0:=hpd j
  have d1:=hpd (j+1)
  have hrj:=hrl j
  by_cases hf:(j:Int)∈foundA A
  ·rw    [decide_eq_true hf] at hg
   rw [toQ_yes hf] at hs
   have hfj:=hfd j hlt
   by_cases hp:predA A j=true
   ·    obtain⟨hLN,hLT,hdi⟩:=hNew j hlt hf hp
        obtain⟨k1,k2,k3⟩:=ksQ_new hp
        have hr1:((repsJ A (j+1)).map fun x=>D.flat (.int .i64 x))=((repsJ A j).map fun x=>D.flat (.int .i64 x))++ [.flat (.int .i64 ((j:Nat):Int))]:=by rw [k3];simp
        have hrl1:(repsJ A (j+1)).length=(repsJ A j).length+1:=by rw [k3];simp
        unfold kI at*
        generalize hK1:ksQ A (j+1)=K1 at*
        generalize hD1:dsQ A (j+1)=D1 at*
        generalize ksQ A j=K0 at*
        generalize dsQ A j=D0 at*
        generalize hX1:((fillF (toQ A) n (j+1)).map fun x=>D.flat (.int .i64 x))=X1 at*
        generalize ((fillF (toQ A) n j).map fun x=>D.flat (.int .i64 x))=X0 at*
        generalize hR1:((repsJ A (j+1)).map fun x=>D.flat (.int .i64 x))=R1 at*
        generalize ((repsJ A j).map fun x=>D.flat (.int .i64 x))=R0 at*
        generalize (repsJ A j).length=m at*
        clear hset hlen hpI hpd hgb hNew hOld hfd hcl hre hz hok0 hk0 hd0 hr0 hrl k3
        refine DW.walk ?_
        rw [hs,← k1,← k2,← hr1]
        exact⟨j+1,by omega,by omega,by rw [hX1,hK1,hD1,hR1,hrl1];exact Sub.auto⟩
   ·    obtain⟨hLT,hdi⟩:=hOld j hlt hf hp
        have k3:=ksQ_old hp
        have k1:ksQ A (j+1)=ksQ A j:=by unfold ksQ;rw [k3]
        have k2:dsQ A (j+1)=dsQ A j:=by unfold dsQ;rw [k3]
        rw [k3] at u1
        rw [k2] at d1
        unfold kI at hLT
        generalize ksQ A j=K0 at*
        generalize dsQ A j=D0 at*
        generalize hX1:((fillF (toQ A) n (j+1)).map fun x=>D.flat (.int .i64 x))=X1 at*
        generalize ((fillF (toQ A) n j).map fun x=>D.flat (.int .i64 x))=X0 at*
        generalize hR0:((repsJ A j).map fun x=>D.flat (.int .i64 x))=R0 at*
        generalize hm:(repsJ A j).length=m at*
        clear hset hlen hpI hpd hgb hNew hOld hfd hcl hre hz hok0 hk0 hd0 hr0 hrl
        refine DW.walk ?_
        rw [hs]
        exact⟨j+1,by omega,by omega,by rw [hX1,k1,k2,k3,hR0,hm];exact Sub.auto⟩
  ·rw [decide_eq_false hf] at hg
   rw [toQ_no hf] at hs
   have k3:repsJ A (j+1)=repsJ A j:=ksQ_old (fun h=>hf (predA_iff.1 h).1)
   have k1:ksQ A (j+1)=ksQ A j:=by unfold ksQ;rw [k3]
   have k2:dsQ A (j+1)=dsQ A j:=by unfold dsQ;rw [k3]
   rw [k3] at u1
   rw [k2] at d1
   generalize ksQ A j=K0 at*
   generalize dsQ A j=D0 at*
   generalize hX1:((fillF (toQ A) n (j+1)).map fun x=>D.flat (.int .i64 x))=X1 at*
   generalize ((fillF (toQ A) n j).map fun x=>D.flat (.int .i64 x))=X0 at*
   generalize hR0:((repsJ A j).map fun x=>D.flat (.int .i64 x))=R0 at*
   generalize hm:(repsJ A j).length=m at*
   clear hset hlen hpI hpd hgb hNew hOld hfd hcl hre hz hok0 hk0 hd0 hr0 hrl
   refine DW.walk ?_
   rw [hs]
   exact⟨j+1,by omega,by omega,by rw [hX1,k1,k2,k3,hR0,hm];exact Sub.auto⟩
 ·obtain rfl:n=j:=by omega
  rw [hrall]
  have hrj:=hrl n
  rw [hrall] at hrj
  have t0:=hpI (fillF (toQ A) n n)
  have u0:=hpI (repsA A)
  have hpF2:persL LF=true:=hpF
  have hq9:=fun (c2:Code) (h:selC [1,1,1,1,1,1,1,1,1] code99=some c2)=>qtail_d h A hk LF hpF
  have hRp:∀ (i:Nat) (x:Int),(repsA A)[i]?=some x→partD false 1 (i*1) ((repsA A).map fun x=>D.flat (.int .i64 x))=some (.flat (.int .i64 x)):=fun i x h=>part_i h
  have hRf:∀ (i:Nat) (x:Int),(repsA A)[i]?=some x→ ∃ t:Nat,x=(t:Int)∧t<n:=fun i x h=>by
   have hm:=(repsA_ok hok).found x (List.mem_of_getElem? h)
   obtain⟨x0,x1⟩:=found_in hok hm
   obtain⟨t,rfl⟩:=Int.eq_ofNat_of_zero_le x0
   exact⟨t,rfl,by omega⟩
  have hqf:∀ (i t:Nat),(repsA A)[i]?=some (t:Int)→t<n→ ∃ b,A.final[t]?=some b∧qF A (repsA A) i=b:=fun i t h ht=>by
   obtain⟨b,hb⟩:∃ b,A.final[t]?=some b:=⟨A.final[t]'(by omega),by simp⟩
   exact⟨b,hb,by unfold qF finI;rw [show (repsA A).getD i 0=(t:Int) by simp [List.getD,h]];simp [List.getD,hb]⟩
  have hFp:∀ (t:Nat) (b:Bool),A.final[t]?=some b→partD false 1 (t*1) LB=some (.flat (.bool b)):=hFB
  have hpB:=fun l:List Bool=>pers_b l
  have c76:=clone76_d A.ranks (by have:=hok.alpha.hi;omega)
  rw [hLRe] at c76
  have hfa:fillF (toQ A) n n=(List.range n).map (toQ A):=fillF_all _ _
  rw [hLRe,hLBe,hLTe,hnA] at hq9
  rw [hfa] at t0 ⊢
  obtain⟨m,hme⟩:∃ m,(repsA A).length=m:=⟨_,rfl⟩
  rw [hme] at hq9 hrj ⊢
  generalize hRRe:((repsA A).map fun x=>D.flat (.int .i64 x))=RR at*
  generalize hTT:(((List.range n).map (toQ A)).map fun x=>D.flat (.int .i64 x))=TT at*
  clear hgb hset hlen hpd hNew hOld hk0 hd0 hr0 hok0 hfd hcl hre hz hFB hRK hTO
  refine DW.walkTo 18 ?_
  refine DW.sub (s':=⟨[(1,.ptr [.sl false 1 A.ranks.length LR,.sl false 1 n LB,.sl false 1 A.ranks.length LT] 0),(2,.ref 2 0),(5,.sl false 1 n LF),(8,.own 38 n),(9,.sl false 1 m RR)],[(2,some (.box [.flat (.slice none 0 0),.flat (.slice none 0 0),.flat (.slice none 0 0)])),(38,some (.row 3 1 n TT))]⟩) Sub.auto ?_
  refine DW.walkTo 19 ?_
  refine DW.adoptBox 16 1 111 4 1 rfl rfl rfl ?_
  refine DW.adoptBox 16 2 112 22 1 rfl rfl rfl ?_
  refine DW.cut2 ⟨[(1,.ptr [.sl false 1 A.ranks.length LR,.sl false 1 n LB,.sl false 1 A.ranks.length LT] 0),(2,.ref 2 0),(5,.sl false 1 n LF),(8,.own 38 n),(9,.sl false 1 m RR),(16,.ref 16 0)],[(2,some (.box [.flat (.slice none 0 0),.flat (.slice none 0 0),.flat (.slice none 0 0)])),(38,some (.row 3 1 n TT)),(16,some (.box [.sl false 1 A.ranks.length LR,.own 111 m,.own 112 0])),(111,some (.row 4 1 m (((List.range m).map (qF A (repsA A))).map fun x=>D.flat (.bool x)))),(112,some (.row 22 1 0 []))]⟩ ?_ (hq9 _ (by rfl))
  clear hq9
  refine DW.walk ?_
  refine DW.loopA (fun i:Nat=>⟨[(84,.sl false 1 m RR),(85,.flat (.int .i64 ((m:Nat):Int))),(86,.flat (.int .i64 ((i:Nat):Int))),(1,.ptr [.sl false 1 A.ranks.length LR,.sl false 1 n LB,.sl false 1 A.ranks.length LT] 0),(2,.ref 2 0),(5,.sl false 1 n LF),(8,.own 38 n),(9,.sl false 1 m RR),(16,.ref 16 0)],[(2,some (.box [.flat (.slice none 0 0),.flat (.slice none 0 0),.flat (.slice none 0 0)])),(38,some (.row 3 1 n TT)),(16,some (.box [.sl false 1 A.ranks.length LR,.own 111 i,.own 112 0])),(111,some (.row 4 1 i (((List.range i).map (qF A (repsA A))).map fun x=>D.flat (.bool x)))),(112,some (.row 22 1 0 []))]⟩) (fun i=>i≤m) (fun i=>m - i) 0 ?_ (Nat.zero_le _)
  intro i hi
  rcases Nat.lt_or_ge i m with hil|hig
  ·obtain⟨x,hx⟩:∃ x,(repsA A)[i]?=some x:=⟨(repsA A)[i]'(by omega),by simp⟩
   obtain⟨t,rfl,htn⟩:=hRf i x hx
   have hp1:=hRp i _ hx
   obtain⟨b,hb,hqb⟩:=hqf i t hx htn
   have hp2:=hFp t b hb
   have hq1:(((List.range (i+1)).map (qF A (repsA A))).map fun x=>D.flat (.bool x))=(((List.range i).map (qF A (repsA A))).map fun x=>D.flat (.bool x))++ [.flat (.bool b)]:=by rw [List.range_succ,List.map_append,List.map_append];simp [hqb]
   have v0:=hpB ((List.range i).map (qF A (repsA A)))
   have v1:=hpB ((List.range (i+1)).map (qF A (repsA A)))
   generalize hX1:(((List.range (i+1)).map (qF A (repsA A))).map fun x=>D.flat (.bool x))=X1 at*
   generalize (((List.range i).map (qF A (repsA A))).map fun x=>D.flat (.bool x))=X0 at*
   clear hRf hRp hqf hFp hb hqb
   refine DW.walk ?_
   rw [← hq1]
   exact⟨i+1,by omega,by omega,by rw [hX1];exact Sub.auto⟩
  ·obtain rfl:i=m:=by omega
   have v0:=hpB ((List.range i).map (qF A (repsA A)))
   generalize hFQ:(((List.range i).map (qF A (repsA A))).map fun x=>D.flat (.bool x))=FQ at*
   clear hqf hFp hig hi
   refine DW.walk ?_
   exact⟨rfl,Sub.auto⟩
end Go.Proofs.Ytichhfbkhnimmaa
