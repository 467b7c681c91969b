/- The quotient. No condition. -/
import Derived.Test.YtichhfbkhnimmaaVQT
set_option linter.unusedSimpArgs false
set_option linter.unusedVariables false
set_option maxHeartbeats 4000000
set_option maxRecDepth 8000
namespace Go.Proofs.Ytichhfbkhnimmaa
open Go Go.RowKit Go.PP Go.Dm Go.Rt Go.Mn
theorem ko_ {A:Au} {p:Nat} (h:p<A.f.length):(clsU A)[p]?=some ((clsA A p:Nat):Int):=by simp [clsU,h]
theorem l6_ {A:Au} (hok:AuOk A):Flat (clsU A):=⟨fun a x h=>by
 have ha:a<A.f.length:=by have:=(List.getElem?_eq_some_iff.1 h).1;simpa [clsU] using this
 rw [ko_ ha] at h
 have h1:=(ep_ hok ha).1
 exact⟨clsA A a,(Option.some.inj h).symm,h1,by rw [ko_ (by omega),xe_ hok ha]⟩⟩
theorem gb_ (A:Au):(clsU A).length=A.f.length:=by simp [clsU]
theorem q4_ (A:Au) (hk:chk A=0):
  DLend Try.prog 99 [auD A] [(38,none)] [(38,some (.row 3 1 A.f.length (((List.range A.f.length).map (toQ A)).map fun x=>D.flat (.int .i64 x))))] (.tup [auD (quoA A (af_ A)),.own 38 A.f.length]):=by
 have hok:=a6_ hk
 have hcl:=mm_ A hk
 have hre:=tw_ A (bj_ hok)
 rw [ii_ hk] at hre
 have hlb:(isB A.f.length (ad_ A)).length=A.f.length:=d2_ _ _
 have hgb:∀ o:Nat,o<A.f.length→partD false 1 (o*1) ((isB A.f.length (ad_ A)).map fun x=>D.flat (.bool x))=some (.flat (.bool (decide ((o:Int)∈ad_ A)))):=fun o h=>ef_ (e9_ h _)
 have hfd:∀ p:Nat,p<A.f.length→DLend Try.prog 18 [.ref 225626701274425600001 0,.flat (.int .i64 ((p:Nat):Int))] [(225626701274425600001,some (.box [.own 225626701274425600002 A.f.length])),(225626701274425600002,some (.row 3 1 A.f.length ((clsU A).map fun x=>D.flat (.int .i64 x))))] [(225626701274425600001,some (.box [.own 225626701274425600002 A.f.length])),(225626701274425600002,some (.row 3 1 A.f.length ((clsU A).map fun x=>D.flat (.int .i64 x))))] (.tup [.flat (.int .i64 (((clsA A p):Nat):Int)),.flat (.int .i64 0)]):=fun p hp=>by
  have h:=sz_ (clsU A) (l6_ hok) (by rw [gb_];have:=hok.hi;omega) p (clsA A p) (ko_ hp)
  rw [gb_] at h
  exact h
 have hnn:=hok.hi
 have hlo:=hok.lo
 have hTl:A.to.length=A.r.length:=hok.len
 have hset:=fun j (h:j<A.f.length)=>ge_ (f:=toQ A) h
 have hlen:=fun j (h:j≤A.f.length)=>do_ (f:=toQ A) h
 have hpI:=fun U:List Int=>ab_ U
 have hpF:=al_ (isB A.f.length (ad_ A))
 have hpd:∀ j,persL (dsQ A j)=true:=fun j=>ac_ (f:=fun i:Nat=>D.flat (.int .i64 (i:Int))) (fun _=>rfl) (List.range (a8_ A j).length)
 have hNew:=fun j (hj:j<A.f.length) (hf:(j:Int)∈ad_ A) (hp:fw_ A j=true)=>And.intro (lz_ hok hj hf hp) (ru_ hok hj hf hp)
 have hOld:=fun j (hj:j<A.f.length) (hf:(j:Int)∈ad_ A) (hp:fw_ A j≠true)=>te_ hok hj hf hp
 have hk0:ksQ A 0=[]:=rfl
 have hd0:dsQ A 0=[]:=rfl
 have hr0:a8_ A 0=[]:=rfl
 have hok0:=ue_ hok (Nat.zero_le _)
 have hrl:=fun j=>sf_ A j
 have hpu:=ab_ (clsU A)
 have q1:=ab_ A.r
 have q2:=al_ A.f
 have q3:=ao_ A.to
 rw [a1_ A] at*
 rw [hTl] at hcl hre ⊢
 rw [hlb] at hre
 have hrall:=i0_ A
 have hFB:∀ (t:Nat) (b:Bool),A.f[t]?=some b→partD false 1 (t*1) (A.f.map fun x=>D.flat (.bool x))=some (.flat (.bool b)):=fun t b h=>ef_ h
 have hRK:∀ (t:Nat) (b:Int),A.r[t]?=some b→partD false 1 (t*1) (A.r.map fun x=>D.flat (.int .i64 x))=some (.flat (.int .i64 b)):=fun t b h=>an_ h
 have hTO:∀ (t:Nat) (b:List Int),A.to[t]?=some b→partD false 1 (t*1) (aj_ A.to)=some (.sl false 1 b.length (b.map fun x=>D.flat (.int .i64 x))):=fun t b h=>dc_ h
 generalize ((isB A.f.length (ad_ A)).map fun x=>D.flat (.bool x))=LF at*
 generalize hLRe:(A.r.map fun x=>D.flat (.int .i64 x))=LR at*
 generalize hLBe:(A.f.map fun x=>D.flat (.bool x))=LB at*
 generalize hLTe:aj_ A.to=LT at*
 generalize ((clsU A).map fun x=>D.flat (.int .i64 x))=LU at*
 generalize hnA:A.f.length=n at*
 have hz:List.replicate n (D.flat (.int .i64 0))=((az_ (toQ A) n 0).map fun x=>D.flat (.int .i64 x)):=by rw [fk_];simp
 refine DLend.enterA Try.func99 Try.ntmps99 ?_
 refine DW.walkTo 6 ?_
 refine DW.adopt 9 110 3 1 rfl rfl ?_
 refine DW.walk ?_
 refine DW.loopA (fun j:Nat=>⟨[(1,.ptr [.sl false 1 A.r.length LR,.sl false 1 n LB,.sl false 1 A.r.length LT] 0),(2,.ref 2 0),(4,.ref 225626701274425600001 0),(5,.sl false 1 n LF),(7,.mp 35),(8,.own 38 n),(9,.own 110 (a8_ A j).length),(39,.sl false 1 n LF),(40,.flat (.int .i64 ((n:Nat):Int))),(41,.flat (.int .i64 ((j:Nat):Int)))],[(2,some (.box [.flat (.slice none 0 0),.flat (.slice none 0 0),.flat (.slice none 0 0)])),(225626701274425600001,some (.box [.own 225626701274425600002 n])),(225626701274425600002,some (.row 3 1 n LU)),(35,some (.box (.keys (ksQ A j)::dsQ A j))),(38,some (.row 3 1 n ((az_ (toQ A) n j).map fun x=>D.flat (.int .i64 x)))),(110,some (.row 3 1 (a8_ A j).length ((a8_ A j).map fun x=>D.flat (.int .i64 x))))]⟩) (fun j=>j≤n) (fun j=>n - j) 0 ?_ (Nat.zero_le _) (by rw [hk0,hd0,hr0];have hp0:=hpI (az_ (toQ A) n 0);rw [← hz] at hp0 ⊢;generalize (List.replicate n (D.flat (.int .i64 0)))=RZ at *;exact Sub.auto)
 intro j hj
 rcases Nat.lt_or_ge j n with hlt|hge
 ·have   hg:=hgb j hlt
  have hs:=hset j hlt
  have hl2:(((az_ (toQ A) n j).map fun x=>D.flat (.int .i64 x))).length=n:=by rw [List.length_map];exact hlen j hj
  have t0:=hpI (az_ (toQ A) n j)
  have t1:=hpI (az_ (toQ A) n (j+1))
  have u0:=hpI (a8_ A j)
  have u1:=hpI (a8_ A (j+1))
  have d0:=hpd j
  have d1:=hpd (j+1)
  have hrj:=hrl j
  by_cases hf:(j:Int)∈ad_ A
  ·rw    [decide_eq_true hf] at hg
   rw [om_ hf] at hs
   have hfj:=hfd j hlt
   by_cases hp:fw_ A j=true
   ·    obtain⟨hLN,hLT,hdi⟩:=hNew j hlt hf hp
        obtain⟨k1,k2,k3⟩:=tu_ hp
        have hr1:((a8_ A (j+1)).map fun x=>D.flat (.int .i64 x))=((a8_ A j).map fun x=>D.flat (.int .i64 x))++ [.flat (.int .i64 ((j:Nat):Int))]:=by rw [k3];simp
        have hrl1:(a8_ A (j+1)).length=(a8_ A j).length+1:=by rw [k3];simp
        unfold kI at*
        generalize hK1:ksQ A (j+1)=K1 at*
        generalize hD1:dsQ A (j+1)=D1 at*
        generalize ksQ A j=K0 at*
        generalize dsQ A j=D0 at*
        generalize hX1:((az_ (toQ A) n (j+1)).map fun x=>D.flat (.int .i64 x))=X1 at*
        generalize ((az_ (toQ A) n j).map fun x=>D.flat (.int .i64 x))=X0 at*
        generalize hR1:((a8_ A (j+1)).map fun x=>D.flat (.int .i64 x))=R1 at*
        generalize ((a8_ A j).map fun x=>D.flat (.int .i64 x))=R0 at*
        generalize (a8_ A j).length=m at*
        clear hset hlen hpI hpd hgb hNew hOld hfd hcl hre hz hok0 hk0 hd0 hr0 hrl k3
        refine DW.walk ?_
        rw [hs,← k1,← k2,← hr1]
        exact⟨j+1,by omega,by omega,by rw [hX1,hK1,hD1,hR1,hrl1];exact Sub.auto⟩
   ·    obtain⟨hLT,hdi⟩:=hOld j hlt hf hp
        have k3:=th_ hp
        have k1:ksQ A (j+1)=ksQ A j:=by unfold ksQ;rw [k3]
        have k2:dsQ A (j+1)=dsQ A j:=by unfold dsQ;rw [k3]
        rw [k3] at u1
        rw [k2] at d1
        unfold kI at hLT
        generalize ksQ A j=K0 at*
        generalize dsQ A j=D0 at*
        generalize hX1:((az_ (toQ A) n (j+1)).map fun x=>D.flat (.int .i64 x))=X1 at*
        generalize ((az_ (toQ A) n j).map fun x=>D.flat (.int .i64 x))=X0 at*
        generalize hR0:((a8_ A j).map fun x=>D.flat (.int .i64 x))=R0 at*
        generalize hm:(a8_ A j).length=m at*
        clear hset hlen hpI hpd hgb hNew hOld hfd hcl hre hz hok0 hk0 hd0 hr0 hrl
        refine DW.walk ?_
        rw [hs]
        exact⟨j+1,by omega,by omega,by rw [hX1,k1,k2,k3,hR0,hm];exact Sub.auto⟩
  ·rw [decide_eq_false hf] at hg
   rw [wt_ hf] at hs
   have k3:a8_ A (j+1)=a8_ A j:=th_ (fun h=>hf (e7_.1 h).1)
   have k1:ksQ A (j+1)=ksQ A j:=by unfold ksQ;rw [k3]
   have k2:dsQ A (j+1)=dsQ A j:=by unfold dsQ;rw [k3]
   rw [k3] at u1
   rw [k2] at d1
   generalize ksQ A j=K0 at*
   generalize dsQ A j=D0 at*
   generalize hX1:((az_ (toQ A) n (j+1)).map fun x=>D.flat (.int .i64 x))=X1 at*
   generalize ((az_ (toQ A) n j).map fun x=>D.flat (.int .i64 x))=X0 at*
   generalize hR0:((a8_ A j).map fun x=>D.flat (.int .i64 x))=R0 at*
   generalize hm:(a8_ A j).length=m at*
   clear hset hlen hpI hpd hgb hNew hOld hfd hcl hre hz hok0 hk0 hd0 hr0 hrl
   refine DW.walk ?_
   rw [hs]
   exact⟨j+1,by omega,by omega,by rw [hX1,k1,k2,k3,hR0,hm];exact Sub.auto⟩
 ·obtain rfl:n=j:=by omega
  rw [hrall]
  have hrj:=hrl n
  rw [hrall] at hrj
  have t0:=hpI (az_ (toQ A) n n)
  have u0:=hpI (af_ A)
  have hpF2:persL LF=true:=hpF
  have hq9:=fun (c2:Code) (h:selC [1,1,1,1,1,1,1,1,1] m4_=some c2)=>w4_ h A hk LF hpF
  have hRp:∀ (i:Nat) (x:Int),(af_ A)[i]?=some x→partD false 1 (i*1) ((af_ A).map fun x=>D.flat (.int .i64 x))=some (.flat (.int .i64 x)):=fun i x h=>an_ h
  have hRf:∀ (i:Nat) (x:Int),(af_ A)[i]?=some x→ ∃ t:Nat,x=(t:Int)∧t<n:=fun i x h=>by
   have hm:=(cx_ hok).found x (List.mem_of_getElem? h)
   obtain⟨x0,x1⟩:=b0_ hok hm
   obtain⟨t,rfl⟩:=Int.eq_ofNat_of_zero_le x0
   exact⟨t,rfl,by omega⟩
  have hqf:∀ (i t:Nat),(af_ A)[i]?=some (t:Int)→t<n→ ∃ b,A.f[t]?=some b∧qF A (af_ A) i=b:=fun i t h ht=>by
   obtain⟨b,hb⟩:∃ b,A.f[t]?=some b:=⟨A.f[t]'(by omega),by simp⟩
   exact⟨b,hb,by unfold qF finI;rw [show (af_ A).getD i 0=(t:Int) by simp [List.getD,h]];simp [List.getD,hb]⟩
  have hFp:∀ (t:Nat) (b:Bool),A.f[t]?=some b→partD false 1 (t*1) LB=some (.flat (.bool b)):=hFB
  have hpB:=fun l:List Bool=>al_ l
  have c76:=mk_ A.r (by have:=hok.alpha.hi;omega)
  rw [hLRe] at c76
  have hfa:az_ (toQ A) n n=(List.range n).map (toQ A):=go_ _ _
  rw [hLRe,hLBe,hLTe,hnA] at hq9
  rw [hfa] at t0 ⊢
  obtain⟨m,hme⟩:∃ m,(af_ A).length=m:=⟨_,rfl⟩
  rw [hme] at hq9 hrj ⊢
  generalize hRRe:((af_ A).map fun x=>D.flat (.int .i64 x))=RR at*
  generalize hTT:(((List.range n).map (toQ A)).map fun x=>D.flat (.int .i64 x))=TT at*
  clear hgb hset hlen hpd hNew hOld hk0 hd0 hr0 hok0 hfd hcl hre hz hFB hRK hTO
  refine DW.walkTo 18 ?_
  refine DW.sub (s':=⟨[(1,.ptr [.sl false 1 A.r.length LR,.sl false 1 n LB,.sl false 1 A.r.length LT] 0),(2,.ref 2 0),(5,.sl false 1 n LF),(8,.own 38 n),(9,.sl false 1 m RR)],[(2,some (.box [.flat (.slice none 0 0),.flat (.slice none 0 0),.flat (.slice none 0 0)])),(38,some (.row 3 1 n TT))]⟩) Sub.auto ?_
  refine DW.walkTo 19 ?_
  refine DW.adoptBox 16 1 111 4 1 rfl rfl rfl ?_
  refine DW.adoptBox 16 2 112 22 1 rfl rfl rfl ?_
  refine DW.cut2 ⟨[(1,.ptr [.sl false 1 A.r.length LR,.sl false 1 n LB,.sl false 1 A.r.length LT] 0),(2,.ref 2 0),(5,.sl false 1 n LF),(8,.own 38 n),(9,.sl false 1 m RR),(16,.ref 16 0)],[(2,some (.box [.flat (.slice none 0 0),.flat (.slice none 0 0),.flat (.slice none 0 0)])),(38,some (.row 3 1 n TT)),(16,some (.box [.sl false 1 A.r.length LR,.own 111 m,.own 112 0])),(111,some (.row 4 1 m (((List.range m).map (qF A (af_ A))).map fun x=>D.flat (.bool x)))),(112,some (.row 22 1 0 []))]⟩ ?_ (hq9 _ (by rfl))
  clear hq9
  refine DW.walk ?_
  refine DW.loopA (fun i:Nat=>⟨[(84,.sl false 1 m RR),(85,.flat (.int .i64 ((m:Nat):Int))),(86,.flat (.int .i64 ((i:Nat):Int))),(1,.ptr [.sl false 1 A.r.length LR,.sl false 1 n LB,.sl false 1 A.r.length LT] 0),(2,.ref 2 0),(5,.sl false 1 n LF),(8,.own 38 n),(9,.sl false 1 m RR),(16,.ref 16 0)],[(2,some (.box [.flat (.slice none 0 0),.flat (.slice none 0 0),.flat (.slice none 0 0)])),(38,some (.row 3 1 n TT)),(16,some (.box [.sl false 1 A.r.length LR,.own 111 i,.own 112 0])),(111,some (.row 4 1 i (((List.range i).map (qF A (af_ A))).map fun x=>D.flat (.bool x)))),(112,some (.row 22 1 0 []))]⟩) (fun i=>i≤m) (fun i=>m - i) 0 ?_ (Nat.zero_le _)
  intro i hi
  rcases Nat.lt_or_ge i m with hil|hig
  ·obtain⟨x,hx⟩:∃ x,(af_ A)[i]?=some x:=⟨(af_ A)[i]'(by omega),by simp⟩
   obtain⟨t,rfl,htn⟩:=hRf i x hx
   have hp1:=hRp i _ hx
   obtain⟨b,hb,hqb⟩:=hqf i t hx htn
   have hp2:=hFp t b hb
   have hq1:(((List.range (i+1)).map (qF A (af_ A))).map fun x=>D.flat (.bool x))=(((List.range i).map (qF A (af_ A))).map fun x=>D.flat (.bool x))++ [.flat (.bool b)]:=by rw [List.range_succ,List.map_append,List.map_append];simp [hqb]
   have v0:=hpB ((List.range i).map (qF A (af_ A)))
   have v1:=hpB ((List.range (i+1)).map (qF A (af_ A)))
   generalize hX1:(((List.range (i+1)).map (qF A (af_ A))).map fun x=>D.flat (.bool x))=X1 at*
   generalize (((List.range i).map (qF A (af_ A))).map fun x=>D.flat (.bool x))=X0 at*
   clear hRf hRp hqf hFp hb hqb
   refine DW.walk ?_
   rw [← hq1]
   exact⟨i+1,by omega,by omega,by rw [hX1];exact Sub.auto⟩
  ·obtain rfl:i=m:=by omega
   have v0:=hpB ((List.range i).map (qF A (af_ A)))
   generalize hFQ:(((List.range i).map (qF A (af_ A))).map fun x=>D.flat (.bool x))=FQ at*
   clear hqf hFp hig hi
   refine DW.walk ?_
   exact⟨rfl,Sub.auto⟩
end Go.Proofs.Ytichhfbkhnimmaa
