/- Candidates: one place, by the plain law. No condition. -/
import Derived.Test.YtichhfbkhnimmaaVCA1
import Derived.Test.YtichhfbkhnimmaaVCA2
set_option linter.unusedSimpArgs false
set_option linter.unusedVariables false
set_option maxHeartbeats 4000000
set_option maxRecDepth 8000
namespace Go.Proofs.Ytichhfbkhnimmaa
open Go Go.RowKit Go.PP Go.Dm Go.Rt Go.Mn
def de_ (A:Au) (sz:Nat→Nat) (B:Nat→Tr) (s y p:Nat):List Tr:=((List.range p).filter fun a=>decide (succN A y a=s∧1+sumN sz (opsN A.f.length (rankN A y) a)=sz s)).map fun a=> .node (y:Int) ((opsN A.f.length (rankN A y) a).map B)
theorem m7_ (A:Au) (sz:Nat→Nat) (B:Nat→Tr) (s y:Nat):de_ A sz B s y (rowN A y).length=ec_ A sz B s y:=rfl
theorem jh_ {A:Au} {sz:Nat→Nat} {B:Nat→Tr} {s y p:Nat} (h:succN A y p=s∧1+sumN sz (opsN A.f.length (rankN A y) p)=sz s):de_ A sz B s y (p+1)=de_ A sz B s y p++ [.node (y:Int) ((opsN A.f.length (rankN A y) p).map B)]:=by
 unfold de_
 rw [List.range_succ,List.filter_append,List.map_append]
 simp [h.1,h.2]
theorem kj_ {A:Au} {sz:Nat→Nat} {B:Nat→Tr} {s y p:Nat} (h:¬ (succN A y p=s∧1+sumN sz (opsN A.f.length (rankN A y) p)=sz s)):de_ A sz B s y (p+1)=de_ A sz B s y p:=by
 unfold de_
 rw [List.range_succ,List.filter_append,List.map_append]
 simp only [List.filter_cons,decide_eq_false h,Bool.false_eq_true,if_false,List.filter_nil,List.map_nil,List.append_nil]
theorem c1_ (A:Au) (sz:Nat→Nat) (B:Nat→Tr) (s y p:Nat):(de_ A sz B s y p).length≤p:=by
 unfold de_
 rw [List.length_map]
 exact Nat.le_trans (List.length_filter_le ..) (by simp)
theorem et_ (l:List Tr) (t:Tr):ae_ (l++ [t])=ae_ l++er_ t:=by rw [c8_,gi_]
theorem cb_ {TL:List Tr} {x:Nat} (h:x<TL.length):∃ (s:Int) (l:List Tr),TL.getD x (.node 0 [])= .node s l∧partD true 2 (x*2) (ae_ TL)=some (.agg [.flat (.int .i64 s),.sl false 2 l.length (ae_ l)]):=by
 have h1:TL[x]?=some TL[x]:=List.getElem?_eq_getElem h
 have h2:=bk_ h1
 have h3:TL.getD x (.node 0 [])=TL[x]:=by rw [List.getD_eq_getElem?_getD,h1];rfl
 generalize TL[x]=t at*
 obtain⟨s,l⟩:=t
 rw [ak_] at h2
 exact⟨s,l,h3,h2⟩
theorem z7_ {cc:Code} (hsel:selC [1,1,0,1,2,2,1,1,0,2,1,1,0,1,2,2] fq_=some cc) (A:Au) (hok:AuOk A) (sz:Nat→Nat) (hle:∀ x,x<A.f.length→sz x≤4097) (TL:List Tr) (hTL:TL.length=A.f.length) (s y p:Nat) (hs:s<A.f.length) (hy:y<A.r.length) (hp:p<(rowN A y).length):
  DW Try.prog 110 cc ⟨[(1,.sl false 1 A.f.length ((szL A.f.length sz).map fun x=>D.flat (.int .i64 x))),(2,.own 129807421463370690713262408230502400004 A.f.length),(3,.flat (.int .i64 ((s:Nat):Int))),(4,.ref 4 0),(9,.flat (.int .i64 ((A.f.length:Nat):Int))),(10,.flat (.int .i64 ((y:Nat):Int))),(11,.flat (.int .i64 ((rankN A y:Nat):Int))),(12,.own 512 (de_ A sz (fun x=>TL.getD x (.node 0 [])) s y p).length),(26,.sl false 1 A.r.length (A.r.map fun x=>D.flat (.int .i64 x))),(27,.flat (.int .i64 ((A.r.length:Nat):Int))),(28,.flat (.int .i64 ((y:Nat):Int))),(37,.sl false 1 (rowN A y).length ((rowN A y).map fun x=>D.flat (.int .i64 x))),(38,.flat (.int .i64 (((rowN A y).length:Nat):Int))),(39,.flat (.int .i64 ((p:Nat):Int)))],[(4,some (.box [.sl false 1 A.r.length (A.r.map fun x=>D.flat (.int .i64 x)),.sl false 1 A.f.length (A.f.map fun x=>D.flat (.bool x)),.sl false 1 A.to.length (aj_ A.to)])),(129807421463370690713262408230502400004,some (.row 78 2 A.f.length (ae_ TL))),(512,some (.row 78 2 (de_ A sz (fun x=>TL.getD x (.node 0 [])) s y p).length (ae_ (de_ A sz (fun x=>TL.getD x (.node 0 [])) s y p))))]⟩ (Nm 110 ⟨[(1,.sl false 1 A.f.length ((szL A.f.length sz).map fun x=>D.flat (.int .i64 x))),(2,.own 129807421463370690713262408230502400004 A.f.length),(3,.flat (.int .i64 ((s:Nat):Int))),(4,.ref 4 0),(9,.flat (.int .i64 ((A.f.length:Nat):Int))),(10,.flat (.int .i64 ((y:Nat):Int))),(11,.flat (.int .i64 ((rankN A y:Nat):Int))),(12,.own 512 (de_ A sz (fun x=>TL.getD x (.node 0 [])) s y (p+1)).length),(26,.sl false 1 A.r.length (A.r.map fun x=>D.flat (.int .i64 x))),(27,.flat (.int .i64 ((A.r.length:Nat):Int))),(28,.flat (.int .i64 ((y:Nat):Int))),(37,.sl false 1 (rowN A y).length ((rowN A y).map fun x=>D.flat (.int .i64 x))),(38,.flat (.int .i64 (((rowN A y).length:Nat):Int))),(39,.flat (.int .i64 (((p+1):Nat):Int)))],[(4,some (.box [.sl false 1 A.r.length (A.r.map fun x=>D.flat (.int .i64 x)),.sl false 1 A.f.length (A.f.map fun x=>D.flat (.bool x)),.sl false 1 A.to.length (aj_ A.to)])),(129807421463370690713262408230502400004,some (.row 78 2 A.f.length (ae_ TL))),(512,some (.row 78 2 (de_ A sz (fun x=>TL.getD x (.node 0 [])) s y (p+1)).length (ae_ (de_ A sz (fun x=>TL.getD x (.node 0 [])) s y (p+1)))))]⟩):=by
 obtain⟨r1,r2⟩:=bg_ hok hy
 obtain⟨w1,w2,w3⟩:=bq_ hok hy
 obtain⟨hs1,hs2⟩:(rowN A y)[p]?=some ((succN A y p:Nat):Int)∧succN A y p<A.f.length:=by
  have h1:=List.getElem?_eq_getElem hp
  obtain⟨h2,h3⟩:=w3 p _ h1
  exact⟨by rw [h1,h2],h3⟩
 have hrl:(rowN A y).length≤1000000:=(bj_ hok).l _ (List.mem_of_getElem? w1)
 have q1:=ab_ A.r
 have q2:=al_ A.f
 have q3:=ao_ A.to
 have q4:=ab_ (rowN A y)
 rcases (show rankN A y=0∨rankN A y=1∨rankN A y=2 by omega) with hk|hk|hk
 ·have hsum:1+sumN sz (opsN A.f.length (rankN A y) p)=1:=by rw [hk];simp [opsN,sumN];try omega
  by_cases hc:succN A y p=s∧1+sumN sz (opsN A.f.length (rankN A y) p)=sz s
  ·have hY:=jh_ (B:=fun x=>TL.getD x (.node 0 [])) hc
   rw [show (opsN A.f.length (rankN A y) p).map (fun x=>TL.getD x (.node 0 []))=[] from by rw [hk];simp [opsN]] at hY
   rw [hY,et_,List.length_append,List.length_singleton,hk]
   exact yr_ hsel A.r.length A.to.length A.f.length (rowN A y).length y p s (de_ A sz (fun x=>TL.getD x (.node 0 [])) s y p).length (succN A y p) _ _ _ _ _ _ _ _ q1 q2 q3 q4 (ab_ _) (ah_ _) (ah_ _) (by rw [← et_];exact ah_ _) hok.lo hok.hi hrl hp hy hok.alpha.hi (by have:=c1_ A sz (fun x=>TL.getD x (.node 0 [])) s y p;omega) hs (an_ hs1) (sz s) (hle _ hs) (a4_ sz hs) hc.1 (by rw [← hsum];exact hc.2) (by simp [a9_,dm_,co_])
  ·rw [kj_ hc,hk]
   exact zu_ hsel A.r.length A.to.length A.f.length (rowN A y).length y p s (de_ A sz (fun x=>TL.getD x (.node 0 [])) s y p).length (succN A y p) _ _ _ _ _ _ _ [] q1 q2 q3 q4 (ab_ _) (ah_ _) (ah_ _) rfl hok.lo hok.hi hrl hp hy hok.alpha.hi (by have:=c1_ A sz (fun x=>TL.getD x (.node 0 [])) s y p;omega) hs (an_ hs1) (sz s) (hle _ hs) (a4_ sz hs) (fun h=>hc ⟨h.1,by rw [hsum];exact h.2⟩)
 ·have hsum:1+sumN sz (opsN A.f.length (rankN A y) p)=1+sz p:=by rw [hk];simp [opsN,sumN];try omega
  have hpq:p<A.f.length:=by have:=w2;rw [hk,Nat.pow_one] at this;omega
  obtain⟨u0,l0,t0,z0⟩:=cb_ (show p<TL.length by omega)
  by_cases hc:succN A y p=s∧1+sumN sz (opsN A.f.length (rankN A y) p)=sz s
  ·have hY:=jh_ (B:=fun x=>TL.getD x (.node 0 [])) hc
   rw [show (opsN A.f.length (rankN A y) p).map (fun x=>TL.getD x (.node 0 []))=[.node u0 l0] from by rw [hk];show [TL.getD p (.node 0 [])]=_;rw [t0]] at hY
   rw [hY,et_,List.length_append,List.length_singleton,hk]
   exact ym_ hsel A.r.length A.to.length A.f.length (rowN A y).length y p s (de_ A sz (fun x=>TL.getD x (.node 0 [])) s y p).length (succN A y p) _ _ _ _ _ _ _ _ q1 q2 q3 q4 (ab_ _) (ah_ _) (ah_ _) (by rw [← et_];exact ah_ _) hok.lo hok.hi hrl hp hy hok.alpha.hi (by have:=c1_ A sz (fun x=>TL.getD x (.node 0 [])) s y p;omega) hs (an_ hs1) (sz s) (hle _ hs) (a4_ sz hs) (sz p) (hle p hpq) hpq (a4_ sz hpq) u0 _ _ (ah_ _) z0 hc.1 (by rw [← hsum];exact hc.2) (by simp [a9_,dm_,co_])
  ·rw [kj_ hc,hk]
   exact zn_ hsel A.r.length A.to.length A.f.length (rowN A y).length y p s (de_ A sz (fun x=>TL.getD x (.node 0 [])) s y p).length (succN A y p) _ _ _ _ _ _ _ [] q1 q2 q3 q4 (ab_ _) (ah_ _) (ah_ _) rfl hok.lo hok.hi hrl hp hy hok.alpha.hi (by have:=c1_ A sz (fun x=>TL.getD x (.node 0 [])) s y p;omega) hs (an_ hs1) (sz s) (hle _ hs) (a4_ sz hs) (sz p) (hle p hpq) hpq (a4_ sz hpq) u0 _ _ (ah_ _) z0 (fun h=>hc ⟨h.1,by rw [hsum];exact h.2⟩)
 ·have hsum:1+sumN sz (opsN A.f.length (rankN A y) p)=1+sz (p / A.f.length)+sz (p % A.f.length):=by rw [hk];simp [opsN,sumN];try omega
  have hpq:p / A.f.length<A.f.length:=Nat.div_lt_of_lt_mul (by have:=w2;rw [hk,Nat.pow_two] at this;omega)
  have hpr:p % A.f.length<A.f.length:=Nat.mod_lt _ hok.lo
  obtain⟨u0,l0,t0,z0⟩:=cb_ (show p / A.f.length<TL.length by omega)
  obtain⟨u1,l1,t1,z1⟩:=cb_ (show p % A.f.length<TL.length by omega)
  by_cases hc:succN A y p=s∧1+sumN sz (opsN A.f.length (rankN A y) p)=sz s
  ·have hY:=jh_ (B:=fun x=>TL.getD x (.node 0 [])) hc
   rw [show (opsN A.f.length (rankN A y) p).map (fun x=>TL.getD x (.node 0 []))=[.node u0 l0,.node u1 l1] from by rw [hk];simp only [opsN,List.map_cons,List.map_nil,t0,t1,if_neg (show ¬ (2:Nat)=0 by decide),if_neg (show ¬ (2:Nat)=1 by decide)]] at hY
   rw [hY,et_,List.length_append,List.length_singleton,hk]
   exact ye_ hsel A.r.length A.to.length A.f.length (rowN A y).length y p s (de_ A sz (fun x=>TL.getD x (.node 0 [])) s y p).length (succN A y p) _ _ _ _ _ _ _ _ q1 q2 q3 q4 (ab_ _) (ah_ _) (ah_ _) (by rw [← et_];exact ah_ _) hok.lo hok.hi hrl hp hy hok.alpha.hi (by have:=c1_ A sz (fun x=>TL.getD x (.node 0 [])) s y p;omega) hs (an_ hs1) (sz s) (hle _ hs) (a4_ sz hs) (sz (p / A.f.length)) (hle _ hpq) hpq (a4_ sz hpq) u0 _ _ (ah_ _) z0 (sz (p % A.f.length)) (hle _ hpr) hpr (a4_ sz hpr) u1 _ _ (ah_ _) z1 hc.1 (by rw [← hsum];exact hc.2) (by simp [a9_,dm_,co_])
  ·rw [kj_ hc,hk]
   exact z0_ hsel A.r.length A.to.length A.f.length (rowN A y).length y p s (de_ A sz (fun x=>TL.getD x (.node 0 [])) s y p).length (succN A y p) _ _ _ _ _ _ _ [] q1 q2 q3 q4 (ab_ _) (ah_ _) (ah_ _) rfl hok.lo hok.hi hrl hp hy hok.alpha.hi (by have:=c1_ A sz (fun x=>TL.getD x (.node 0 [])) s y p;omega) hs (an_ hs1) (sz s) (hle _ hs) (a4_ sz hs) (sz (p / A.f.length)) (hle _ hpq) hpq (a4_ sz hpq) u0 _ _ (ah_ _) z0 (sz (p % A.f.length)) (hle _ hpr) hpr (a4_ sz hpr) u1 _ _ (ah_ _) z1 (fun h=>hc ⟨h.1,by rw [hsum];exact h.2⟩)
theorem y7_ {cc:Code} (hsel:selC [1,1,0,1,2,2] fq_=some cc) (A:Au) (hok:AuOk A) (sz:Nat→Nat) (hle:∀ x,x<A.f.length→sz x≤4097) (TL:List Tr) (hTL:TL.length=A.f.length) (s y:Nat) (hs:s<A.f.length) (hy:y<A.r.length):
  DW Try.prog 110 cc ⟨[(1,.sl false 1 A.f.length ((szL A.f.length sz).map fun x=>D.flat (.int .i64 x))),(2,.own 129807421463370690713262408230502400004 A.f.length),(3,.flat (.int .i64 ((s:Nat):Int))),(4,.ref 4 0),(9,.flat (.int .i64 ((A.f.length:Nat):Int))),(26,.sl false 1 A.r.length (A.r.map fun x=>D.flat (.int .i64 x))),(27,.flat (.int .i64 ((A.r.length:Nat):Int))),(28,.flat (.int .i64 ((y:Nat):Int)))],[(4,some (.box [.sl false 1 A.r.length (A.r.map fun x=>D.flat (.int .i64 x)),.sl false 1 A.f.length (A.f.map fun x=>D.flat (.bool x)),.sl false 1 A.to.length (aj_ A.to)])),(129807421463370690713262408230502400004,some (.row 78 2 A.f.length (ae_ TL)))]⟩ (fun e s'=>(e= .normal∧(ec_ A sz (fun x=>TL.getD x (.node 0 [])) s y)=[]∧Dm.Sub 110 s' ⟨[(1,.sl false 1 A.f.length ((szL A.f.length sz).map fun x=>D.flat (.int .i64 x))),(2,.own 129807421463370690713262408230502400004 A.f.length),(3,.flat (.int .i64 ((s:Nat):Int))),(4,.ref 4 0),(9,.flat (.int .i64 ((A.f.length:Nat):Int))),(26,.sl false 1 A.r.length (A.r.map fun x=>D.flat (.int .i64 x))),(27,.flat (.int .i64 ((A.r.length:Nat):Int))),(28,.flat (.int .i64 (((y+1):Nat):Int)))],[(4,some (.box [.sl false 1 A.r.length (A.r.map fun x=>D.flat (.int .i64 x)),.sl false 1 A.f.length (A.f.map fun x=>D.flat (.bool x)),.sl false 1 A.to.length (aj_ A.to)])),(129807421463370690713262408230502400004,some (.row 78 2 A.f.length (ae_ TL)))]⟩)∨(e= .ret∧(ec_ A sz (fun x=>TL.getD x (.node 0 [])) s y)≠ []∧ResL Try.prog Try.f82 110 s' [(129807421463370690713262408230502400004,some (.row 78 2 A.f.length (ae_ TL)))] (.sl false 2 (ec_ A sz (fun x=>TL.getD x (.node 0 [])) s y).length (ae_ (ec_ A sz (fun x=>TL.getD x (.node 0 [])) s y))))):=by
 obtain⟨r1,r2⟩:=bg_ hok hy
 obtain⟨w1,w2,w3⟩:=bq_ hok hy
 have hrk:=an_ r2
 have hrw:=dc_ w1
 have hst:=fun (cc:Code) (h:selC [1,1,0,1,2,2,1,1,0,2,1,1,0,1,2,2] fq_=some cc) p hp=>z7_ h A hok sz hle TL hTL s y p hs hy hp
 have hrl:(rowN A y).length≤1000000:=(bj_ hok).l _ (List.mem_of_getElem? w1)
 have hlen:=fun p=>c1_ A sz (fun x=>TL.getD x (.node 0 [])) s y p
 have hall:=m7_ A sz (fun x=>TL.getD x (.node 0 [])) s y
 have hz:de_ A sz (fun x=>TL.getD x (.node 0 [])) s y 0=[]:=rfl
 have hpers:=fun p=>ah_ (de_ A sz (fun x=>TL.getD x (.node 0 [])) s y p)
 have hTl:=hok.len
 have hll:=hok.alpha.hi
 have q1:=ab_ A.r
 have q2:=al_ A.f
 have q3:=ao_ A.to
 have q4:=ab_ (rowN A y)
 have q5:=ab_ (szL A.f.length sz)
 have q6:=ah_ TL
 generalize hCS:(ec_ A sz (fun x=>TL.getD x (.node 0 [])) s y)=C at*
 generalize de_ A sz (fun x=>TL.getD x (.node 0 [])) s y=CP at*
 generalize rankN A y=rk at*
 generalize ((rowN A y).map fun x=>D.flat (.int .i64 x))=RW at*
 generalize (rowN A y).length=rl at*
 generalize (A.r.map fun x=>D.flat (.int .i64 x))=LR at*
 generalize (A.f.map fun x=>D.flat (.bool x))=LB at*
 generalize aj_ A.to=LT at*
 generalize ((szL A.f.length sz).map fun x=>D.flat (.int .i64 x))=SZ at*
 generalize ae_ TL=TC at*
 generalize A.r.length=lr at*
 generalize A.f.length=n at*
 generalize A.to.length=lt at*
 clear w1 w2 w3 r2 hCS hTL hle
 refine DW.sel hsel (by rfl) ?_
 refine DW.walkTo 6 ?_
 refine DW.adopt 12 512 78 2 rfl rfl ?_
 refine DW.walk ?_
 refine DW.loopA (fun p:Nat=>⟨[(1,.sl false 1 n SZ),(2,.own 129807421463370690713262408230502400004 n),(3,.flat (.int .i64 ((s:Nat):Int))),(4,.ref 4 0),(9,.flat (.int .i64 ((n:Nat):Int))),(10,.flat (.int .i64 ((y:Nat):Int))),(11,.flat (.int .i64 ((rk:Nat):Int))),(12,.own 512 (CP p).length),(26,.sl false 1 lr LR),(27,.flat (.int .i64 ((lr:Nat):Int))),(28,.flat (.int .i64 ((y:Nat):Int))),(37,.sl false 1 rl RW),(38,.flat (.int .i64 ((rl:Nat):Int))),(39,.flat (.int .i64 ((p:Nat):Int)))],[(4,some (.box [.sl false 1 lr LR,.sl false 1 n LB,.sl false 1 lt LT])),(129807421463370690713262408230502400004,some (.row 78 2 n TC)),(512,some (.row 78 2 (CP p).length (ae_ (CP p))))]⟩) (fun p=>p≤rl) (fun p=>rl - p) 0 ?_ (Nat.zero_le _) (by rw [hz,co_];exact Sub.auto)
 intro p hp
 rcases Nat.lt_or_ge p rl with hlt|hge
 ·refine (hst _ (by rfl) p hlt).mono ?_
  rintro e s' ⟨rfl,hsub⟩
  exact⟨p+1,by omega,by omega,hsub⟩
 ·obtain rfl:p=rl:=by omega
  have hC:=hpers p
  have hCl:=hlen p
  rw [hall] at*
  clear hst hlen hall hpers hz
  cases C with
  |nil=>
   rw [co_]
   show DW _ _ _ ⟨[(1,.sl false 1 n SZ),(2,.own 129807421463370690713262408230502400004 n),(3,.flat (.int .i64 ((s:Nat):Int))),(4,.ref 4 0),(9,.flat (.int .i64 ((n:Nat):Int))),(10,.flat (.int .i64 ((y:Nat):Int))),(11,.flat (.int .i64 ((rk:Nat):Int))),(12,.own 512 0),(26,.sl false 1 lr LR),(27,.flat (.int .i64 ((lr:Nat):Int))),(28,.flat (.int .i64 ((y:Nat):Int))),(37,.sl false 1 p RW),(38,.flat (.int .i64 ((p:Nat):Int))),(39,.flat (.int .i64 ((p:Nat):Int)))],[(4,some (.box [.sl false 1 lr LR,.sl false 1 n LB,.sl false 1 lt LT])),(129807421463370690713262408230502400004,some (.row 78 2 n TC)),(512,some (.row 78 2 0 []))]⟩ _
   refine DW.walk ?_
   exact .inl ⟨rfl,rfl,Sub.auto⟩
  |cons t ts=>
   have h0:0<(t::ts).length:=by simp
   have hne:t::ts≠ []:=(by simp)
   generalize ae_ (t::ts)=KC at*
   generalize (t::ts).length=kl at*
   refine DW.walkTo 31 ?_
   refine DW.sub (s':=⟨[(12,.sl false 2 kl KC)],[(129807421463370690713262408230502400004,some (.row 78 2 n TC))]⟩) Sub.auto ?_
   refine DW.walk ?_
   exact .inr ⟨rfl,hne,ResL.oneA⟩
theorem yo_ (A:Au) (hok:AuOk A) (sz:Nat→Nat) (hle:∀ x,x<A.f.length→sz x≤4097) (TL:List Tr) (hTL:TL.length=A.f.length) (s y:Nat) (hs:s<A.f.length) (hy:y<A.r.length) (h0:∀ j,j<y→(ec_ A sz (fun x=>TL.getD x (.node 0 [])) s j)=[]) (hne:(ec_ A sz (fun x=>TL.getD x (.node 0 [])) s y)≠ []):
  DLend Try.prog 82 [auD A,.sl false 1 A.f.length ((szL A.f.length sz).map fun x=>D.flat (.int .i64 x)),.own 129807421463370690713262408230502400004 A.f.length,.flat (.int .i64 ((s:Nat):Int))] [(129807421463370690713262408230502400004,some (.row 78 2 A.f.length (ae_ TL)))] [(129807421463370690713262408230502400004,some (.row 78 2 A.f.length (ae_ TL)))] (.sl false 2 (ec_ A sz (fun x=>TL.getD x (.node 0 [])) s y).length (ae_ (ec_ A sz (fun x=>TL.getD x (.node 0 [])) s y))):=by
 have hrow:=fun (cc:Code) (h:selC [1,1,0,1,2,2] fq_=some cc) y hy=>y7_ h A hok sz hle TL hTL s y hs hy
 have q1:=ab_ A.r
 have q2:=al_ A.f
 have q3:=ao_ A.to
 have q5:=ab_ (szL A.f.length sz)
 have q6:=ah_ TL
 have hll:=hok.alpha.hi
 rw [a1_ A]
 generalize (A.r.map fun x=>D.flat (.int .i64 x))=LR at*
 generalize (A.f.map fun x=>D.flat (.bool x))=LB at*
 generalize aj_ A.to=LT at*
 generalize ((szL A.f.length sz).map fun x=>D.flat (.int .i64 x))=SZ at*
 generalize ae_ TL=TC at*
 generalize A.r.length=lr at*
 generalize A.f.length=n at*
 generalize A.to.length=lt at*
 refine DLend.enterA Try.func82 Try.ntmps82 ?_
 refine DW.walk ?_
 refine DW.loopA (fun j:Nat=>⟨[(1,.sl false 1 n SZ),(2,.own 129807421463370690713262408230502400004 n),(3,.flat (.int .i64 ((s:Nat):Int))),(4,.ref 4 0),(9,.flat (.int .i64 ((n:Nat):Int))),(26,.sl false 1 lr LR),(27,.flat (.int .i64 ((lr:Nat):Int))),(28,.flat (.int .i64 ((j:Nat):Int)))],[(4,some (.box [.sl false 1 lr LR,.sl false 1 n LB,.sl false 1 lt LT])),(129807421463370690713262408230502400004,some (.row 78 2 n TC))]⟩) (fun j=>j≤y) (fun j=>y - j) 0 ?_ (Nat.zero_le _)
 intro j hj
 refine (hrow _ (by rfl) j (by omega)).mono ?_
 rintro e s' (⟨rfl,h1,h2⟩| ⟨rfl,h1,h2⟩)
 ·have:j≠y:=fun e=>by subst e;exact hne h1
  exact⟨j+1,by omega,by omega,h2⟩
 ·have:j=y:=by
   rcases Nat.lt_or_ge j y with h|h
   ·exact absurd (h0 j h) h1
   ·omega
  subst this
  exact⟨.inr rfl,h2⟩
theorem ri_:∀ n:Nat,(List.range (n*2)).map (fun i=>if i % 2=0 then D.flat (.int .i64 0) else D.sl false 2 0 [])=ae_ (List.replicate n (.node 0 []))
 |0=>by rw [ae_.eq_def];rfl
 |n+1=>by
  rw [show (n+1)*2=n*2+1+1 by omega,List.range_succ,List.range_succ,List.map_append,List.map_append,ri_ n,List.replicate_succ',et_,a9_]
  simp only [List.map_cons,List.map_nil,if_pos (show n*2 % 2=0 by omega),if_neg (show ¬ (n*2+1) % 2=0 by omega),List.append_assoc,List.singleton_append]
  rw [show fa_ []=D.sl false 2 0 [] from by simp [fa_,co_]]
theorem ud_ {M:Nat→Prop} {w:World} {G:Cx} (n:Nat):RepL M w G (ae_ (List.replicate n (.node 0 []))) ((madeCells #[.int .i64 0,.slice none 0 0] (n*2)).toList.take (n*2)):=by
 rw [← ri_]
 refine RepL.of (by simp [size_madeCells]) fun i d u h1 h2=>?_
 have hi:i<n*2:=by
  have:=(List.getElem?_eq_some_iff.1 h1).1
  simpa using this
 rw [List.getElem?_map,List.getElem?_range hi] at h1
 have h1:=Option.some.inj h1
 rw [List.getElem?_take,if_pos hi] at h2
 simp [madeCells,hi] at h2
 subst h1
 rcases (show i % 2=0∨i % 2=1 by omega) with e|e
 ·simp only [e] at h2
  subst h2
  simp [e,Rep]
 ·simp only [e] at h2
  subst h2
  simp [e,Rep]
theorem t5_ {N:Nat} {dst:Option Tmp} {ty:TypeId} {pos:String} {af:Array Edge} {gd:Option (Nat × Bool)} {e n:Nat} {kl kc:IntKind} (id:Nat) (t:TypeId) (x y:Operand) (ht:Try.prog.underlying t=some (.slice e)) (hinfo:(Try.prog.info? e).map (fun i=>(i.zero,i.size,i.bytes))=some (some (.agg #[.int .i64 0,.slice none 0 0]),2,32))
  (hn:n≤1000000) (hid:newId N id=true):
  Tri Try.prog N ⟨dst,.makeSlice t x y,ty,pos,af,gd⟩ [(x,.flat (.int kl n)),(y,.flat (.int kc n))] [(id,none)] (.own id n) [(id,some (.row e 2 n (ae_ (List.replicate n (.node 0 [])))))]:=by
 refine Tri.makeR (n:=2) (T:=e) hid (Nat.le_refl n) (by unfold maxLen;omega) fun M w G ρ hv=>?_
 obtain⟨i,hi,hzz⟩:=Option.map_eq_some_iff.1 hinfo
 simp only [Prod.mk.injEq] at hzz
 obtain⟨hz,hs,hb2⟩:=hzz
 have hb':(i.bytes:Int)*(n:Int)≤281474976710656:=by rw [hb2];omega
 have hr:=run_make (P:=Try.prog) w t e i _ ht hi hz kl kc n n (by omega) (by omega) hb' (by omega)
 simp only [Int.toNat_natCast,hs] at hr
 refine⟨(madeCells #[.int .i64 0,.slice none 0 0] (n*2)).toList,by simp only [execOp,hv.one,hv.2.one,Sem.run_bind,hr,Result.andThen_ok,Sem.run_pure,Array.toArray_toList];rfl,by simp [size_madeCells],?_⟩
 exact ud_ n
theorem z8_ {N:Nat} {dst:Option Tmp} {ty:TypeId} {pos:String} {af:Array Edge} {gd:Option (Nat × Bool)}:Tri Try.prog N ⟨dst,.build 78 #[],ty,pos,af,gd⟩ [] [] (.agg [.flat (.int .i64 0),.sl false 2 0 []]) []:=Tri.val fun M w G ρ hv=>by
 obtain⟨fs,ht,hp⟩:=(TyPl.h:∃ fs:List Field,Try.prog.underlying 78=some (.struct fs.toArray)∧placesD Try.prog fs=some [(0,1),(1,1)])
 have hz:zeroT Try.prog 78=some (.agg #[.int .i64 0,.slice none 0 0]):=TyZ.h
 refine⟨.agg #[.int .i64 0,.slice none 0 0],?_,by simp only [Rep];exact⟨[.int .i64 0,.slice none 0 0],rfl,by
  simp only [RepL]
  refine⟨_,_,rfl,by simp only [Rep],_,_,rfl,?_,rfl⟩
  simp only [Rep]
  exact⟨none,0,rfl,Nat.le_refl _,(fun h=>by cases h),rfl,by decide,.inl trivial⟩⟩⟩
 have hm:(fs.toArray.mapM fun (f:Field)=>do let n ← sizeOf f.type;pure (f.offset,n)).run Try.prog w= .ok #[(0,1),(1,1)] w:=by
  rw [List.mapM_toArray,map_eq_pure_bind,Sem.run_bind,Go.Dm.run_places hp]
  simp only [Result.andThen_ok,Sem.run_pure]
 simp only [execOp,Instr.build,Sem.run_bind,d9_ hz,Result.andThen_ok,ai_ ht,hm,List.getElem?_toArray]
 have hf:Instr.fill (fun x=>([(0,1),(1,1)]:List (Nat × Nat))[x]?) (Value.agg #[.int .i64 0,.slice none 0 0]).cells []=some #[.int .i64 0,.slice none 0 0]:=rfl
 simp [hf,Sem.run_pure]
end Go.Proofs.Ytichhfbkhnimmaa
