/- Least sizes: one step. No condition. -/
import Derived.Test.YtichhfbkhnimmaaVBG
import Derived.Test.YtichhfbkhnimmaaVFO
import Derived.Test.YtichhfbkhnimmaaVPA
import Derived.Test.YtichhfbkhnimmaaVQC2
import Derived.Test.YtichhfbkhnimmaaUQu
set_option linter.unusedSimpArgs false
set_option linter.unusedVariables false
set_option maxHeartbeats 400000
namespace Go.Mn
open Go Go.RowKit Go.PP Go.Dm Go.Rt
def updS (sz:Nat→Nat) (s v:Nat):Nat→Nat:=fun x=>if x=s then v else sz x
def totS (n:Nat) (sz:Nat→Nat):Nat:=sumN sz (List.range n)
theorem eh_ (n:Nat) (sz:Nat→Nat):totS (n+1) sz=totS n sz+sz n:=by simp [totS,sumN,List.range_succ]
theorem ph_ {sz:Nat→Nat} {s v:Nat}:∀ n,n≤s→totS n (updS sz s v)=totS n sz
 |0,_=>rfl
 |n+1,h=>by
  rw [eh_,eh_,ph_ n (by omega)]
  unfold updS
  rw [if_neg (by omega)]
theorem su_ {sz:Nat→Nat} {s v:Nat} (hv:v<sz s):∀ n,s<n→totS n (updS sz s v)<totS n sz
 |0,h=>by omega
 |n+1,h=>by
  rw [eh_,eh_]
  by_cases e:n=s
  ·subst e
   rw [ph_ n (Nat.le_refl _)]
   unfold updS
   rw [if_pos rfl];omega
  ·have:=su_ hv n (by omega)
   unfold updS at this ⊢
   rw [if_neg e];omega
theorem ux_ {A:Au} (hok:AuOk A) {sz:Nat→Nat} (h:SizeIn A sz) {i a:Nat} (hi:i<A.r.length) (ha:a<(rowN A i).length) (hv:1+sumN sz (opsN A.f.length (rankN A i) a)<sz (succN A i a)):SizeIn A (updS sz (succN A i a) (1+sumN sz (opsN A.f.length (rankN A i) a))):=by
 obtain⟨r1,r2⟩:=bg_ hok hi
 obtain⟨w1,w2,w3⟩:=bq_ hok hi
 have hs:succN A i a<A.f.length:=(w3 a _ (List.getElem?_eq_getElem ha)).2
 have h7:=h.le _ hs
 have hops:=og_ (n:=A.f.length) r1 (at_:=a) (by rw [← w2];exact ha)
 refine⟨fun x hx=>?_,fun x hx hne=>?_⟩
 ·unfold updS
  split
  ·omega
  ·exact h.le x hx
 ·unfold  updS at hne ⊢
  split
  ·rename_i e
   rw [if_pos e] at hne
   have   hB:∀ x,∃ t:Tr,x<A.f.length→sz x≠4097→Reach A (x:Int) t∧aw_ t=sz x:=fun x=>by
        by_cases hx:x<A.f.length∧sz x≠4097
        ·obtain⟨t,ht⟩:=h.by_ x hx.1 hx.2
         exact⟨t,fun _ _=>ht⟩
        ·exact⟨.node 0 [],fun h1 h2=>absurd ⟨h1,h2⟩ hx⟩
   obtain⟨B,hB⟩:=Classical.axiomOfChoice hB
   have hB2:∀ o∈opsN A.f.length (rankN A i) a,Reach A (o:Int) (B o)∧aw_ (B o)=sz o:=fun o ho=>hB o (hops o ho) (by have:=nz_ (sz:=sz) ho;omega)
   have hsz:bm_ ((opsN A.f.length (rankN A i) a).map B)=sumN sz (opsN A.f.length (rankN A i) a):=hl_ fun o ho=>(hB2 o ho).2
   have  ht:=lf_ hok (P:=fun o t=>t=B o) hi ha (l:=(opsN A.f.length (rankN A i) a).map B) (by simp) (fun j o t h1 h2=>by
        rw [List.getElem?_map,h1] at h2
        have h2:=Option.some.inj h2
        subst h2
        have h3:=(hB2 o (List.mem_of_getElem? h1)).1
        exact⟨h3.n,h3.s⟩)
   refine⟨.node (i:Int) ((opsN A.f.length (rankN A i) a).map B),⟨ht.1,by rw [ht.2,e],?_⟩,?_⟩
   ·rw [aq_,hsz];omega
   ·rw [aq_,hsz];omega
  ·rename_i e
   rw [if_neg e] at hne
   exact h.by_ x hx hne
def adf (A:Au) (sz:Nat→Nat) (y p:Nat):Prop:= ∀ i a:Nat,i<A.r.length→a<(rowN A i).length→(i<y∨i=y∧a<p)→sz (succN A i a)≤1+sumN sz (opsN A.f.length (rankN A i) a)
structure Sst (A:Au) (sz0 sz:Nat→Nat) (b:Bool) (y p:Nat):Prop where
 in_:SizeIn A sz
 same:b=false→sz=sz0∧adf A sz y p
 less:b=true→totS A.f.length sz<totS A.f.length sz0
theorem Sst.init {A:Au} {sz:Nat→Nat} (h:SizeIn A sz):Sst A sz sz false 0 0:=⟨h,fun _=>⟨rfl,fun i a _ _ h=>by omega⟩,fun h=>by cases h⟩
theorem Sst.no {A:Au} {sz0 sz:Nat→Nat} {b:Bool} {y p:Nat} (h:Sst A sz0 sz b y p) (hv:¬ 1+sumN sz (opsN A.f.length (rankN A y) p)<sz (succN A y p)):Sst A sz0 sz b y (p+1):=
 ⟨h.in_,fun hb=>⟨(h.same hb).1,fun i a h1 h2 h3=>by
  by_cases e:i=y∧a=p
  ·obtain⟨rfl,rfl⟩:=e;omega
  ·exact (h.same hb).2 i a h1 h2 (by omega)⟩,h.less⟩
theorem Sst.yes {A:Au} (hok:AuOk A) {sz0 sz:Nat→Nat} {b:Bool} {y p:Nat} (h:Sst A sz0 sz b y p) (hy:y<A.r.length) (hp:p<(rowN A y).length) (hv:1+sumN sz (opsN A.f.length (rankN A y) p)<sz (succN A y p)):Sst A sz0 (updS sz (succN A y p) (1+sumN sz (opsN A.f.length (rankN A y) p))) true y (p+1):=
 ⟨ux_ hok h.in_ hy hp hv,(fun h=>by cases h),fun _=>by
  obtain⟨w1,w2,w3⟩:=bq_ hok hy
  have hs:succN A y p<A.f.length:=(w3 p _ (List.getElem?_eq_getElem hp)).2
  have h1:=su_ hv A.f.length hs
  cases b with
  |true=>have:=h.less rfl;omega
  |false=>rw [(h.same rfl).1] at h1 ⊢;exact h1⟩
theorem Sst.row {A:Au} {sz0 sz:Nat→Nat} {b:Bool} {y:Nat} (h:Sst A sz0 sz b y (rowN A y).length):Sst A sz0 sz b (y+1) 0:=
 ⟨h.in_,fun hb=>⟨(h.same hb).1,fun i a h1 h2 h3=>(h.same hb).2 i a h1 h2 (by
  by_cases e:i=y
  ·subst e;exact .inr ⟨rfl,h2⟩
  ·omega)⟩,h.less⟩
theorem Sst.fix {A:Au} {sz0 sz:Nat→Nat} (h:Sst A sz0 sz false A.r.length 0):lo_ A sz:=fun i a h1 h2=>(h.same rfl).2 i a h1 h2 (.inl h1)
def swF (f:Nat→Nat) (j:Nat):Nat→Nat:=updS (updS f (j+1) (f j)) j (f (j+1))
theorem k3_ (f:Nat→Nat) (j x:Nat):swF f j x=if x=j then f (j+1) else if x=j+1 then f j else f x:=rfl
def insF (key:Nat→Nat):Nat→(Nat→Nat)→Nat→Nat
 |0,f=>f
 |j+1,f=>if key (f (j+1))<key (f j) then insF key j (swF f j) else f
def cj_ (key:Nat→Nat) (f:Nat→Nat):Nat→Nat→Nat
 |0=>f
 |m+1=>insF key (m+1) (cj_ key f m)
structure PermF (L:Nat) (f g:Nat→Nat):Prop where
 mem:∀ s,(∃ x,x<L∧g x=s)↔ ∃ x,x<L∧f x=s
 inj:(∀ x y,x<L→y<L→f x=f y→x=y)→ ∀ x y,x<L→y<L→g x=g y→x=y
theorem PermF.refl (L:Nat) (f:Nat→Nat):PermF L f f:=⟨fun _=>Iff.rfl,fun h=>h⟩
theorem PermF.trans {L:Nat} {f g h:Nat→Nat} (a:PermF L f g) (b:PermF L g h):PermF L f h:=⟨fun s=>(b.mem s).trans (a.mem s),fun i=>b.inj (a.inj i)⟩
theorem s5_ {L j:Nat} (hj:j+1<L) (f:Nat→Nat):PermF L f (swF f j):=by
 refine⟨fun s=>⟨?_,?_⟩,fun hi x y hx hy h=>?_⟩
 ·rintro⟨x,hx,h⟩
  rw [k3_] at h
  split at h
  ·exact⟨j+1,hj,h⟩
  ·split at h
   ·exact⟨j,by omega,h⟩
   ·exact⟨x,hx,h⟩
 ·rintro ⟨x,hx,h⟩
  by_cases e:x=j
  ·subst e
   refine⟨x+1,hj,?_⟩
   rw [k3_,if_neg (by omega),if_pos rfl];exact h
  ·by_cases e2:x=j+1
   ·    subst e2
        refine⟨j,by omega,?_⟩
        rw [k3_,if_pos rfl];exact h
   ·    refine⟨x,hx,?_⟩
        rw [k3_,if_neg e,if_neg e2];exact h
 ·have   hj0:j<L:=by omega
  have   key:∀ z,z<L→ ∃ z',z'<L∧swF f j z=f z'∧(z'=if z=j then j+1 else if z=j+1 then j else z):=fun z hz=>by
   refine⟨if z=j then j+1 else if z=j+1 then j else z,?_,?_,rfl⟩
   ·    split
        ·exact hj
        ·split <;> omega
   ·    rw [k3_]
        split
        ·rfl
        ·split <;> rfl
  obtain⟨x',hx1,hx2,hx3⟩:=key x hx
  obtain⟨y',hy1,hy2,hy3⟩:=key y hy
  rw [hx2,hy2] at h
  have h:=hi _ _ hx1 hy1 h
  rw [hx3,hy3] at h
  split at h <;> split at h <;> (try split at h) <;> (try split at h) <;> omega
theorem pg_ (key:Nat→Nat) {L:Nat}:∀ (j:Nat) (f:Nat→Nat),j<L→PermF L f (insF key j f)
 |0,f,_=>PermF.refl L f
 |j+1,f,h=>by
  rw [insF]
  split
  ·exact (s5_ h f).trans (pg_ key j _ (by omega))
  ·exact PermF.refl L f
theorem i4_ (key f:Nat→Nat) {L:Nat}:∀ m,m<L→PermF L f (cj_ key f m)
 |0,_=>PermF.refl L f
 |m+1,h=>(i4_ key f m (by omega)).trans (pg_ key (m+1) _ h)
def SrtF (key f:Nat→Nat) (m:Nat):Prop:= ∀ a b,a<b→b≤m→key (f a)≤key (f b)
theorem sw_ (key:Nat→Nat) {m:Nat}:∀ (j:Nat) (f:Nat→Nat),j≤m→(∀ a b,a<b→b≤m→a≠j→b≠j→key (f a)≤key (f b))→(∀ b,j<b→b≤m→key (f j)≤key (f b))→SrtF key (insF key j f) m
 |0,f,hj,h1,h2=>fun a b hab hb=>by
  by_cases e:a=0
  ·subst e;exact h2 b hab hb
  ·exact h1 a b hab hb e (by omega)
 |j+    1,f, hj,h1,h2=>by
  rw [insF]
  split
  ·rename_i  hlt
   refine sw_ key j (swF f j) (by omega) (fun a b hab hb ha hbj=>?_) (fun b hb hbm=>?_)
   ·    rw [k3_,k3_,if_neg ha,if_neg hbj]
        by_cases e1:a=j+1
        ·rw [if_pos e1,if_neg (by omega)]
         exact h1 j b (by omega) hb (by omega) (by omega)
        ·rw  [if_neg e1]
         by_cases e2:b=j+1
         ·  rw [if_pos e2]
            exact h1 a j (by omega) (by omega) e1 (by omega)
         ·  rw [if_neg e2]
            exact h1 a b hab hb e1 e2
   ·    rw [k3_,k3_,if_pos rfl,if_neg (by omega)]
        by_cases e:b=j+1
        ·rw [if_pos e];omega
        ·rw [if_neg e]
         exact h2 b (by omega) hbm
  ·rename_i  hge
   intro a b hab hb
   by_cases e1:a=j+1
   ·subst e1;exact h2 b hab hb
   ·    by_cases e2:b=j+1
        ·subst e2
         by_cases e3:a=j
         ·subst e3;omega
         ·  have:=h1 a j (by omega) (by omega) e1 (by omega)
            omega
        ·exact h1 a b hab hb e1 e2
theorem pt_ (key f:Nat→Nat):∀ m,SrtF key (cj_ key f m) m
 |0=>fun a b h1 h2=>by omega
 |m+1=>by
  have ih:=pt_ key f m
  rw [cj_]
  refine sw_ key (m+1) _ (Nat.le_refl _) (fun a b hab hb ha hb2=>ih a b hab (by omega)) (fun b h1 h2=>by omega)
end Go.Mn
set_option maxHeartbeats 4000000
set_option maxRecDepth 8000
namespace Go.Proofs.Ytichhfbkhnimmaa
open Go Go.RowKit Go.PP Go.Dm Go.Rt Go.Mn
noncomputable abbrev gm_:Code:=Try.f79.body.getD .skip
theorem aef {cc:Code} (hsel:selC [1,1,1,0,1,2,2,1,2,1,1,2,2,1,1,0,2,1,1,2,2] gm_=some cc) (lr lt n rl y p s c:Nat) (m:Bool) (LR LB LT RW C0 C1:List D) (q1:persL LR=true) (q2:persL LB=true) (q3:persL LT=true) (q4:persL RW=true) (p0:persL C0=true) (p1:persL C1=true) (k0:keysOf C0=none) (k1:keysOf C1=none) (l0:C0.length=n) (hn1:0<n) (hn:n≤512) (hrl:rl≤1000000) (hp:p<rl) (hy:y<lr) (hlr:lr≤4096) (hs:partD false 1 (p*1) RW=some (.flat (.int .i64 ((s:Nat):Int)))) (hsn:s<n) (hc:c≤4097) (hcs:partD false 1 (0+s) C0=some (.flat (.int .i64 ((c:Nat):Int))))
  (hyes:1<c→List.take (0+s) C0++ [.flat (.int .i64 1)]++List.drop (0+s+1) C0=C1) (hno:¬ 1<c→C0=C1):
  DW Try.prog 76 cc ⟨[(1,.ref 1 0),(3,.flat (.int .i64 ((n:Nat):Int))),(4,.bsl 13107200007 0 n n),(5,.flat (.bool m)),(6,.flat (.int .i64 ((y:Nat):Int))),(7,.flat (.int .i64 ((0:Nat):Int))),(19,.sl false 1 lr LR),(20,.flat (.int .i64 ((lr:Nat):Int))),(21,.flat (.int .i64 ((y:Nat):Int))),(30,.sl false 1 rl RW),(31,.flat (.int .i64 ((rl:Nat):Int))),(32,.flat (.int .i64 ((p:Nat):Int)))],[(1,some (.box [.sl false 1 lr LR,.sl false 1 n LB,.sl false 1 lt LT])),(13107200007,some (.box C0))]⟩ (Nm 76 ⟨[(1,.ref 1 0),(3,.flat (.int .i64 ((n:Nat):Int))),(4,.bsl 13107200007 0 n n),(5,.flat (.bool (m || decide (1<c)))),(6,.flat (.int .i64 ((y:Nat):Int))),(7,.flat (.int .i64 ((0:Nat):Int))),(19,.sl false 1 lr LR),(20,.flat (.int .i64 ((lr:Nat):Int))),(21,.flat (.int .i64 ((y:Nat):Int))),(30,.sl false 1 rl RW),(31,.flat (.int .i64 ((rl:Nat):Int))),(32,.flat (.int .i64 (((p+1):Nat):Int)))],[(1,some (.box [.sl false 1 lr LR,.sl false 1 n LB,.sl false 1 lt LT])),(13107200007,some (.box C1))]⟩):=by
 refine DW.sel hsel (by rfl) ?_
 skip
 by_cases hlt:1<c
 ·have hset:=hyes hlt
  rw [decide_eq_true hlt,Bool.or_true]
  clear hyes hno
  have hlt2:1<((c:Nat):Int):=by omega
  refine DW.walk ?_
  rw [hset]
  exact Nm.mk Sub.auto
 ·obtain rfl:=hno hlt
  rw [decide_eq_false hlt,Bool.or_false]
  clear hyes hno
  have hlt2:¬ 1<((c:Nat):Int):=by omega
  refine DW.walk ?_
  exact Nm.mk Sub.auto
theorem ad9 {cc:Code} (hsel:selC [1,1,1,0,1,2,2,1,2,1,1,2,2,1,1,0,2,1,1,2,2] gm_=some cc) (lr lt n rl y p s c:Nat) (m:Bool) (LR LB LT RW C0 C1:List D) (q1:persL LR=true) (q2:persL LB=true) (q3:persL LT=true) (q4:persL RW=true) (p0:persL C0=true) (p1:persL C1=true) (k0:keysOf C0=none) (k1:keysOf C1=none) (l0:C0.length=n) (hn1:0<n) (hn:n≤512) (hrl:rl≤1000000) (hp:p<rl) (hy:y<lr) (hlr:lr≤4096) (hs:partD false 1 (p*1) RW=some (.flat (.int .i64 ((s:Nat):Int)))) (hsn:s<n) (hc:c≤4097) (hcs:partD false 1 (0+s) C0=some (.flat (.int .i64 ((c:Nat):Int)))) (a:Nat) (ha:a≤4097) (hpn:p<n) (hca:partD false 1 (0+p) C0=some (.flat (.int .i64 ((a:Nat):Int))))
  (hyes:1+a<c→List.take (0+s) C0++ [.flat (.int .i64 (1+((a:Nat):Int)))]++List.drop (0+s+1) C0=C1) (hno:¬ 1+a<c→C0=C1):
  DW Try.prog 76 cc ⟨[(1,.ref 1 0),(3,.flat (.int .i64 ((n:Nat):Int))),(4,.bsl 13107200007 0 n n),(5,.flat (.bool m)),(6,.flat (.int .i64 ((y:Nat):Int))),(7,.flat (.int .i64 ((1:Nat):Int))),(19,.sl false 1 lr LR),(20,.flat (.int .i64 ((lr:Nat):Int))),(21,.flat (.int .i64 ((y:Nat):Int))),(30,.sl false 1 rl RW),(31,.flat (.int .i64 ((rl:Nat):Int))),(32,.flat (.int .i64 ((p:Nat):Int)))],[(1,some (.box [.sl false 1 lr LR,.sl false 1 n LB,.sl false 1 lt LT])),(13107200007,some (.box C0))]⟩ (Nm 76 ⟨[(1,.ref 1 0),(3,.flat (.int .i64 ((n:Nat):Int))),(4,.bsl 13107200007 0 n n),(5,.flat (.bool (m || decide (1+a<c)))),(6,.flat (.int .i64 ((y:Nat):Int))),(7,.flat (.int .i64 ((1:Nat):Int))),(19,.sl false 1 lr LR),(20,.flat (.int .i64 ((lr:Nat):Int))),(21,.flat (.int .i64 ((y:Nat):Int))),(30,.sl false 1 rl RW),(31,.flat (.int .i64 ((rl:Nat):Int))),(32,.flat (.int .i64 (((p+1):Nat):Int)))],[(1,some (.box [.sl false 1 lr LR,.sl false 1 n LB,.sl false 1 lt LT])),(13107200007,some (.box C1))]⟩):=by
 refine DW.sel hsel (by rfl) ?_
 skip
 by_cases hlt:1+a<c
 ·have hset:=hyes hlt
  rw [decide_eq_true hlt,Bool.or_true]
  clear hyes hno
  have hlt2:(1+((a:Nat):Int))<((c:Nat):Int):=by omega
  refine DW.walk ?_
  rw [hset]
  exact Nm.mk Sub.auto
 ·obtain rfl:=hno hlt
  rw [decide_eq_false hlt,Bool.or_false]
  clear hyes hno
  have hlt2:¬ (1+((a:Nat):Int))<((c:Nat):Int):=by omega
  refine DW.walk ?_
  exact Nm.mk Sub.auto
theorem adn {cc:Code} (hsel:selC [1,1,1,0,1,2,2,1,2,1,1,2,2,1,1,0,2,1,1,2,2] gm_=some cc) (lr lt n rl y p s c:Nat) (m:Bool) (LR LB LT RW C0 C1:List D) (q1:persL LR=true) (q2:persL LB=true) (q3:persL LT=true) (q4:persL RW=true) (p0:persL C0=true) (p1:persL C1=true) (k0:keysOf C0=none) (k1:keysOf C1=none) (l0:C0.length=n) (hn1:0<n) (hn:n≤512) (hrl:rl≤1000000) (hp:p<rl) (hy:y<lr) (hlr:lr≤4096) (hs:partD false 1 (p*1) RW=some (.flat (.int .i64 ((s:Nat):Int)))) (hsn:s<n) (hc:c≤4097) (hcs:partD false 1 (0+s) C0=some (.flat (.int .i64 ((c:Nat):Int)))) (a b:Nat) (ha:a≤4097) (hb:b≤4097) (hpn:p / n<n) (hca:partD false 1 (0+p / n) C0=some (.flat (.int .i64 ((a:Nat):Int)))) (hcb:partD false 1 (0+p % n) C0=some (.flat (.int .i64 ((b:Nat):Int))))
  (hyes:1+(a+b)<c→List.take (0+s) C0++ [.flat (.int .i64 (1+(((a:Nat):Int)+((b:Nat):Int))))]++List.drop (0+s+1) C0=C1) (hno:¬ 1+(a+b)<c→C0=C1):
  DW Try.prog 76 cc ⟨[(1,.ref 1 0),(3,.flat (.int .i64 ((n:Nat):Int))),(4,.bsl 13107200007 0 n n),(5,.flat (.bool m)),(6,.flat (.int .i64 ((y:Nat):Int))),(7,.flat (.int .i64 ((2:Nat):Int))),(19,.sl false 1 lr LR),(20,.flat (.int .i64 ((lr:Nat):Int))),(21,.flat (.int .i64 ((y:Nat):Int))),(30,.sl false 1 rl RW),(31,.flat (.int .i64 ((rl:Nat):Int))),(32,.flat (.int .i64 ((p:Nat):Int)))],[(1,some (.box [.sl false 1 lr LR,.sl false 1 n LB,.sl false 1 lt LT])),(13107200007,some (.box C0))]⟩ (Nm 76 ⟨[(1,.ref 1 0),(3,.flat (.int .i64 ((n:Nat):Int))),(4,.bsl 13107200007 0 n n),(5,.flat (.bool (m || decide (1+(a+b)<c)))),(6,.flat (.int .i64 ((y:Nat):Int))),(7,.flat (.int .i64 ((2:Nat):Int))),(19,.sl false 1 lr LR),(20,.flat (.int .i64 ((lr:Nat):Int))),(21,.flat (.int .i64 ((y:Nat):Int))),(30,.sl false 1 rl RW),(31,.flat (.int .i64 ((rl:Nat):Int))),(32,.flat (.int .i64 (((p+1):Nat):Int)))],[(1,some (.box [.sl false 1 lr LR,.sl false 1 n LB,.sl false 1 lt LT])),(13107200007,some (.box C1))]⟩):=by
 refine DW.sel hsel (by rfl) ?_
 have hqn:p % n<n:=Nat.mod_lt _ hn1
 by_cases hlt:1+(a+b)<c
 ·have hset:=hyes hlt
  rw [decide_eq_true hlt,Bool.or_true]
  clear hyes hno
  have hlt2:(1+(((a:Nat):Int)+((b:Nat):Int)))<((c:Nat):Int):=by omega
  refine DW.walk ?_
  rw [hset]
  exact Nm.mk Sub.auto
 ·obtain rfl:=hno hlt
  rw [decide_eq_false hlt,Bool.or_false]
  clear hyes hno
  have hlt2:¬ (1+(((a:Nat):Int)+((b:Nat):Int)))<((c:Nat):Int):=by omega
  refine DW.walk ?_
  exact Nm.mk Sub.auto
def szL (n:Nat) (sz:Nat→Nat):List Int:=(List.range n).map fun p=>((sz p:Nat):Int)
theorem ex_ (n:Nat) (sz:Nat→Nat):(szL n sz).length=n:=by simp [szL]
theorem sx_ {n q:Nat} (sz:Nat→Nat) (h:q<n):(szL n sz)[q]?=some ((sz q:Nat):Int):=by simp [szL,h]
theorem fc_ {n q:Nat} (sz:Nat→Nat) (h:q<n):partD false 1 (0+q) ((szL n sz).map fun x=>D.flat (.int .i64 x))=some (.flat (.int .i64 ((sz q:Nat):Int))):=by
 have h1:=an_ (sx_ sz h)
 rw [Nat.mul_one] at h1
 rw [Nat.zero_add]
 exact h1
theorem yt_ {n s:Nat} (sz:Nat→Nat) (v:Nat) (h:s<n):(szL n sz).set s ((v:Nat):Int)=szL n (updS sz s v):=by
 refine List.ext_getElem (by simp [szL]) fun j h1 h2=>?_
 simp only [szL,List.getElem_set,List.getElem_map,List.getElem_range,updS]
 by_cases e:s=j
 ·subst e;simp
 ·rw [if_neg e,if_neg (Ne.symm e)]
theorem k4_ {n s:Nat} (sz:Nat→Nat) (v:Nat) (x:Int) (hx:x=((v:Nat):Int)) (h:s<n):List.take (0+s) ((szL n sz).map fun x=>D.flat (.int .i64 x))++ [D.flat (.int .i64 x)]++List.drop (0+s+1) ((szL n sz).map fun x=>D.flat (.int .i64 x))=((szL n (updS sz s v)).map fun x=>D.flat (.int .i64 x)):=by
 subst hx
 have h1:=bi_ (x:=D.flat (.int .i64 ((v:Nat):Int))) (show s<((szL n sz).map fun x=>D.flat (.int .i64 x)).length by rw [List.length_map,ex_];exact h)
 unfold spliceD at h1
 rw [Nat.zero_add,← yt_ sz v h,List.map_set]
 exact h1
def kc_ (A:Au) (sz:Nat→Nat) (y p:Nat):Nat→Nat:=if 1+sumN sz (opsN A.f.length (rankN A y) p)<sz (succN A y p) then updS sz (succN A y p) (1+sumN sz (opsN A.f.length (rankN A y) p)) else sz
theorem wh_ {A:Au} (hok:AuOk A) {sz0 sz:Nat→Nat} {b:Bool} {y p:Nat} (h:Sst A sz0 sz b y p) (hy:y<A.r.length) (hp:p<(rowN A y).length):Sst A sz0 (kc_ A sz y p) (b || decide (1+sumN sz (opsN A.f.length (rankN A y) p)<sz (succN A y p))) y (p+1):=by
 unfold kc_
 by_cases hv:1+sumN sz (opsN A.f.length (rankN A y) p)<sz (succN A y p)
 ·rw [if_pos hv,decide_eq_true hv,Bool.or_true]
  exact h.yes hok hy hp hv
 ·rw [if_neg hv,decide_eq_false hv,Bool.or_false]
  exact h.no hv
theorem x8_ {cc:Code} (hsel:selC [1,1,1,0,1,2,2,1,2,1,1,2,2,1,1,0,2,1,1,2,2] gm_=some cc) (A:Au) (hok:AuOk A) (sz:Nat→Nat) (hle:∀ x,x<A.f.length→sz x≤4097) (y p:Nat) (m:Bool) (hy:y<A.r.length) (hp:p<(rowN A y).length):
  DW Try.prog 76 cc ⟨[(1,.ref 1 0),(3,.flat (.int .i64 ((A.f.length:Nat):Int))),(4,.bsl 13107200007 0 A.f.length A.f.length),(5,.flat (.bool m)),(6,.flat (.int .i64 ((y:Nat):Int))),(7,.flat (.int .i64 (((rankN A y):Nat):Int))),(19,.sl false 1 A.r.length (A.r.map fun x=>D.flat (.int .i64 x))),(20,.flat (.int .i64 ((A.r.length:Nat):Int))),(21,.flat (.int .i64 ((y:Nat):Int))),(30,.sl false 1 (rowN A y).length ((rowN A y).map fun x=>D.flat (.int .i64 x))),(31,.flat (.int .i64 (((rowN A y).length:Nat):Int))),(32,.flat (.int .i64 ((p:Nat):Int)))],[(1,some (.box [.sl false 1 A.r.length (A.r.map fun x=>D.flat (.int .i64 x)),.sl false 1 A.f.length (A.f.map fun x=>D.flat (.bool x)),.sl false 1 A.to.length (aj_ A.to)])),(13107200007,some (.box ((szL A.f.length sz).map fun x=>D.flat (.int .i64 x))))]⟩ (Nm 76 ⟨[(1,.ref 1 0),(3,.flat (.int .i64 ((A.f.length:Nat):Int))),(4,.bsl 13107200007 0 A.f.length A.f.length),(5,.flat (.bool (m || decide (1+sumN sz (opsN @A.f.length (rankN A y) p)<sz (succN A y p))))),(6,.flat (.int .i64 ((y:Nat):Int))),(7,.flat (.int .i64 (((rankN A y):Nat):Int))),(19,.sl false 1 A.r.length (A.r.map fun x=>D.flat (.int .i64 x))),(20,.flat (.int .i64 ((A.r.length:Nat):Int))),(21,.flat (.int .i64 ((y:Nat):Int))),(30,.sl false 1 (rowN A y).length ((rowN A y).map fun x=>D.flat (.int .i64 x))),(31,.flat (.int .i64 (((rowN A y).length:Nat):Int))),(32,.flat (.int .i64 (((p+1):Nat):Int)))],[(1,some (.box [.sl false 1 A.r.length (A.r.map fun x=>D.flat (.int .i64 x)),.sl false 1 A.f.length (A.f.map fun x=>D.flat (.bool x)),.sl false 1 A.to.length (aj_ A.to)])),(13107200007,some (.box ((szL A.f.length (kc_ A sz y p)).map fun x=>D.flat (.int .i64 x))))]⟩):=by
 obtain⟨r1,r2⟩:=bg_ hok hy
 obtain⟨w1,w2,w3⟩:=bq_ hok hy
 obtain⟨hs1,hs2⟩:(rowN A y)[p]?=some ((succN A y p:Nat):Int)∧succN A y p<A.f.length:=by
  have h1:=List.getElem?_eq_getElem hp
  obtain⟨h2,h3⟩:=w3 p _ h1
  exact⟨by rw [h1,h2],h3⟩
 have hrl:(rowN A y).length≤1000000:=(bj_ hok).l _ (List.mem_of_getElem? w1)
 have q1:=ab_ A.r
 have q2:=al_ A.f
 have q3:=ao_ A.to
 have q4:=ab_ (rowN A y)
 rcases (show rankN A y=0∨rankN A y=1∨rankN A y=2 by omega) with hk|hk|hk
 ·have hsum:1+sumN sz (opsN A.f.length (rankN A y) p)=1:=by rw [hk];simp [opsN,sumN]
  unfold kc_
  rw [hsum,hk]
  refine aef hsel A.r.length A.to.length A.f.length (rowN A y).length y p (succN A y p) (sz (succN A y p)) m _ _ _ _ _ _ q1 q2 q3 q4 (ab_ _) (ab_ _) (am_ _) (am_ _) (by rw [List.length_map,ex_]) hok.lo hok.hi hrl hp hy hok.alpha.hi (an_ hs1) hs2 (hle _ hs2) (fc_ sz hs2) (fun h=>?_) (fun h=>?_)
  ·rw [if_pos h]
   exact k4_ sz _ _ (by omega) hs2
  ·rw [if_neg h]
 ·have hsum:1+sumN sz (opsN A.f.length (rankN A y) p)=1+sz p:=by rw [hk];simp [opsN,sumN]
  have hpq:p<A.f.length:=by have:=w2;rw [hk,Nat.pow_one] at this;omega
  unfold kc_
  rw [hsum,hk]
  refine ad9 hsel A.r.length A.to.length A.f.length (rowN A y).length y p (succN A y p) (sz (succN A y p)) m _ _ _ _ _ _ q1 q2 q3 q4 (ab_ _) (ab_ _) (am_ _) (am_ _) (by rw [List.length_map,ex_]) hok.lo hok.hi hrl hp hy hok.alpha.hi (an_ hs1) hs2 (hle _ hs2) (fc_ sz hs2) _ (hle p hpq) hpq (fc_ sz hpq) (fun h=>?_) (fun h=>?_)
  ·rw [if_pos h]
   exact k4_ sz _ _ (by omega) hs2
  ·rw [if_neg h]
 ·have hsum:1+sumN sz (opsN A.f.length (rankN A y) p)=1+(sz (p / A.f.length)+sz (p % A.f.length)):=by rw [hk];simp [opsN,sumN]
  have hpq:p / A.f.length<A.f.length:=Nat.div_lt_of_lt_mul (by have:=w2;rw [hk,Nat.pow_two] at this;omega)
  have hpr:p % A.f.length<A.f.length:=Nat.mod_lt _ hok.lo
  unfold kc_
  rw [hsum,hk]
  refine adn hsel A.r.length A.to.length A.f.length (rowN A y).length y p (succN A y p) (sz (succN A y p)) m _ _ _ _ _ _ q1 q2 q3 q4 (ab_ _) (ab_ _) (am_ _) (am_ _) (by rw [List.length_map,ex_]) hok.lo hok.hi hrl hp hy hok.alpha.hi (an_ hs1) hs2 (hle _ hs2) (fc_ sz hs2) _ _ (hle _ hpq) (hle _ hpr) hpq (fc_ sz hpq) (fc_ sz hpr) (fun h=>?_) (fun h=>?_)
  ·rw [if_pos h]
   exact k4_ sz _ _ (by omega) hs2
  ·rw [if_neg h]
end Go.Proofs.Ytichhfbkhnimmaa
