/- The reference: rounds over the table of trees, plainly. No condition. -/
import Derived.Test.YtichhfbkhnimmaaVTT6
import Derived.Test.YtichhfbkhnimmaaVBE
set_option linter.unusedSimpArgs false
set_option linter.unusedVariables false
set_option maxHeartbeats 4000000
set_option maxRecDepth 8000
namespace Go.Proofs.Ytichhfbkhnimmaa
open Go Go.RowKit Go.PP Go.Dm Go.Rt Go.Mn
def tabL (TL:List Tr) (IS:List Bool) (x:Nat):Option Tr:=if IS.getD x false then some (TL.getD x (.node 0 [])) else none
def bet (TL:List Tr) (IS:List Bool) (q:Nat) (t:Tr):Bool:=decide (aw_ t≤4096∧(IS.getD q false=false∨cmpT t (TL.getD q (.node 0 []))<0))
structure RIn (A:Au) (TL:List Tr) (IS:List Bool):Prop where
 lt:TL.length=A.f.length
 li:IS.length=A.f.length
 yes:∀ x,x<A.f.length→IS.getD x false=true→Go.Mn.Reach A (x:Int) (TL.getD x (.node 0 []))
 no:∀ x,x<A.f.length→IS.getD x false=false→TL.getD x (.node 0 [])=(.node 0 [])
def mF (A:Au) (TL:List Tr) (IS:List Bool) (x:Nat):Nat:=if IS.getD x false then rkT A.r (TL.getD x (.node 0 [])) else (allT A.r 4096).length+1
def jm_ (A:Au) (TL:List Tr) (IS:List Bool):Nat:=totS A.f.length (mF A TL IS)
theorem l9_ {f g:Nat→Nat}:∀ n,(∀ x,x<n→f x=g x)→totS n f=totS n g
 |0,_=>rfl
 |n+1,h=>by rw [eh_,eh_,l9_ n fun x hx=>h x (by omega),h n (by omega)]
theorem vm_ {A:Au} {TL:List Tr} {IS:List Bool} (h:RIn A TL IS) {q:Nat} (hq:q<A.f.length) {t:Tr} (ht:Go.Mn.Reach A (q:Int) t) (hb:bet TL IS q t=true):jm_ A (TL.set q t) (IS.set q true)<jm_ A TL IS:=by
 have hb:=of_decide_eq_true hb
 have h1:=h.lt
 have h2:=h.li
 unfold jm_
 rw [l9_ (g:=updS (mF A TL IS) q (rkT A.r t)) A.f.length fun x hx=>by
  unfold mF updS
  by_cases e:q=x
  ·  subst e
     have e1:(IS.set q true).getD q false=true:=by rw [b1_,if_pos ⟨rfl,by omega⟩]
     have e2:(TL.set q t).getD q (.node 0 [])=t:=by rw [b1_,if_pos ⟨rfl,by omega⟩]
     rw [e1,e2,if_pos rfl,if_pos rfl]
  ·  have e1:(IS.set q true).getD x false=IS.getD x false:=by rw [b1_,if_neg (fun z=>e z.1)]
     have e2:(TL.set q t).getD x (.node 0 [])=TL.getD x (.node 0 []):=by rw [b1_,if_neg (fun z=>e z.1)]
     rw [e1,e2,if_neg (show ¬ x=q from Ne.symm e)]]
 refine su_ ?_ _ hq
 unfold mF
 rcases hb.2 with hb2|hb2
 ·rw [hb2,if_neg (by decide)]
  have:=ws_ A.r t
  omega
 ·cases hi:IS.getD q false with
  |false=>rw [if_neg (by decide)];have:=ws_ A.r t;omega
  |true=>rw [if_pos rfl];exact t7_ ht.z ht.n hb2
theorem w6_ {A:Au} {TL:List Tr} {IS:List Bool} (h:RIn A TL IS) {q:Nat} (hq:q<A.f.length) {t:Tr} (ht:Go.Mn.Reach A (q:Int) t):RIn A (TL.set q t) (IS.set q true):=by
 have h1:=h.lt
 have h2:=h.li
 refine⟨by rw [List.length_set,h1],by rw [List.length_set,h2],fun x hx hi=>?_,fun x hx hi=>?_⟩
 ·rw [b1_] at hi ⊢
  by_cases e:q=x
  ·subst e
   rw [if_pos ⟨rfl,by omega⟩];exact ht
  ·rw [if_neg (fun z=>e z.1)] at hi ⊢
   exact h.yes x hx hi
 ·rw [b1_] at hi ⊢
  by_cases e:q=x
  ·subst e
   rw [if_pos ⟨rfl,by omega⟩] at hi;cases hi
  ·rw [if_neg (fun z=>e z.1)] at hi ⊢
   exact h.no x hx hi
def aas (A:Au) (TL:List Tr) (IS:List Bool) (y p:Nat):Prop:= ∀ i a:Nat,i<A.r.length→a<(rowN A i).length→(i<y∨i=y∧a<p)→ ∀ l:List Tr,(opsN A.f.length (rankN A i) a).map (tabL TL IS)=l.map some→4096<aw_ (.node (i:Int) l)∨ ∃ u,tabL TL IS (succN A i a)=some u∧leT u (.node (i:Int) l)
structure RSt (A:Au) (T0:List Tr) (I0:List Bool) (TL:List Tr) (IS:List Bool) (b:Bool) (y p:Nat):Prop where
 in_:RIn A TL IS
 same:b=false→TL=T0∧IS=I0∧aas A TL IS y p
 less:b=true→jm_ A TL IS<jm_ A T0 I0
theorem vh_ {A:Au} {TL:List Tr} {IS:List Bool} (h:RIn A TL IS):RSt A TL IS TL IS false 0 0:=⟨h,fun _=>⟨rfl,rfl,fun i a _ _ h=>by omega⟩,fun h=>by cases h⟩
theorem ns_ {A:Au} {T0 TL:List Tr} {I0 IS:List Bool} {b:Bool} {y:Nat} (h:RSt A T0 I0 TL IS b y (rowN A y).length):RSt A T0 I0 TL IS b (y+1) 0:=
 ⟨h.in_,fun hb=>⟨(h.same hb).1,(h.same hb).2.1,fun i a h1 h2 h3=>(h.same hb).2.2 i a h1 h2 (by
  by_cases e:i=y
  ·subst e;exact .inr ⟨rfl,h2⟩
  ·omega)⟩,h.less⟩
theorem hh_ {TL:List Tr} {IS:List Bool} {x:Nat} (h:IS.getD x false=true):tabL TL IS x=some (TL.getD x (.node 0 [])):=by unfold tabL;rw [h];rfl
theorem oi_ {TL:List Tr} {IS:List Bool} {x:Nat} (h:IS.getD x false=false):tabL TL IS x=none:=by unfold tabL;rw [h];rfl
theorem nc_ {l m:List Tr} (h:l.map some=m.map some):l=m:=by
 have:=congrArg (List.map fun o:Option Tr=>o.getD (.node 0 [])) h
 simpa [List.map_map,Function.comp_def] using this
theorem pl_ {A:Au} {T0 TL:List Tr} {I0 IS:List Bool} {b:Bool} {y p:Nat} (h:RSt A T0 I0 TL IS b y p) (hn:∃ o∈opsN A.f.length (rankN A y) p,IS.getD o false=false):RSt A T0 I0 TL IS b y (p+1):=
 ⟨h.in_,fun hb=>⟨(h.same hb).1,(h.same hb).2.1,fun i a h1 h2 h3 l hl=>by
  by_cases e:i=y∧a=p
  ·obtain⟨rfl,rfl⟩:=e
   obtain⟨o,ho,hf⟩:=hn
   have h4:tabL TL IS o∈l.map some:=by rw [← hl];exact List.mem_map_of_mem ho
   rw [oi_ hf] at h4
   simp at h4
  ·exact (h.same hb).2.2 i a h1 h2 (by omega) l hl⟩,h.less⟩
theorem aa9 {A:Au} {T0 TL:List Tr} {I0 IS:List Bool} {b:Bool} {y p:Nat} (h:RSt A T0 I0 TL IS b y p) (ha:∀ o∈opsN A.f.length (rankN A y) p,IS.getD o false=true) (hb:bet TL IS (succN A y p) (.node (y:Int) ((opsN A.f.length (rankN A y) p).map fun x=>TL.getD x (.node 0 [])))=false):RSt A T0 I0 TL IS b y (p+1):=
 ⟨h.in_, fun hb0=>⟨(h.same hb0).1,(h.same hb0).2.1,fun i a h1 h2 h3 l hl=>by
  by_cases e:i=y∧a=p
  ·obtain ⟨rfl,rfl⟩:=e
   have  h4:(opsN A.f.length (rankN A i) a).map (tabL TL IS)=((opsN A.f.length (rankN A i) a).map fun x=>TL.getD x (.node 0 [])).map some:=by
        rw [List.map_map]
        exact List.map_congr_left fun o ho=>hh_ (ha o ho)
   rw [h4] at hl
   have hl:=(nc_ hl).symm
   subst hl
   have h5:=of_decide_eq_false hb
   by_cases hz:4096<aw_ (.node (i:Int) ((opsN A.f.length (rankN A i) a).map fun x=>TL.getD x (.node 0 [])))
   ·exact .inl hz
   ·    refine .inr ?_
        have h6:¬ (IS.getD (succN A i a) false=false∨cmpT (.node (i:Int) ((opsN A.f.length (rankN A i) a).map fun x=>TL.getD x (.node 0 []))) (TL.getD (succN A i a) (.node 0 []))<0):=fun q=>h5 ⟨by omega,q⟩
        have h7:IS.getD (succN A i a) false=true:=by
         cases hh:IS.getD (succN A i a) false with
         |true=>rfl
         |false=>exact absurd (.inl hh) h6
        exact⟨_,hh_ h7,(e5_ _ _).resolve_right fun q=>h6 (.inr q)⟩
  ·exact (h.same hb0).2.2 i a h1 h2 (by omega) l hl⟩,h.less⟩
theorem xn_ {A:Au} (hok:AuOk A) {T0 TL:List Tr} {I0 IS:List Bool} {b:Bool} {y p:Nat} (h:RSt A T0 I0 TL IS b y p) (hy:y<A.r.length) (hp:p<(rowN A y).length) (ha:∀ o∈opsN A.f.length (rankN A y) p,IS.getD o false=true) (hb:bet TL IS (succN A y p) (.node (y:Int) ((opsN A.f.length (rankN A y) p).map fun x=>TL.getD x (.node 0 [])))=true):
  RSt A T0 I0 (TL.set (succN A y p) (.node (y:Int) ((opsN A.f.length (rankN A y) p).map fun x=>TL.getD x (.node 0 [])))) (IS.set (succN A y p) true) true y (p+1):=by
 obtain⟨r1,r2⟩:=bg_ hok hy
 obtain⟨w1,w2,w3⟩:=bq_ hok hy
 have hs:succN A y p<A.f.length:=(w3 p _ (List.getElem?_eq_getElem hp)).2
 have hops:=og_ (n:=A.f.length) r1 (at_:=p) (by rw [← w2];exact hp)
 have ht:=lf_ hok (P:=fun o t=>t=TL.getD o (.node 0 [])) hy hp (l:=(opsN A.f.length (rankN A y) p).map fun x=>TL.getD x (.node 0 [])) (by simp) (fun j o t h1 h2=>by
  rw [List.getElem?_map,h1] at h2
  have h2:=Option.some.inj h2
  subst h2
  have hm:=List.mem_of_getElem? h1
  have h3:=h.in_.yes o (hops o hm) (ha o hm)
  exact⟨h3.n,h3.s⟩)
 have hR:Go.Mn.Reach A (succN A y p:Int) (.node (y:Int) ((opsN A.f.length (rankN A y) p).map fun x=>TL.getD x (.node 0 []))):=⟨ht.1,ht.2,(of_decide_eq_true hb).1⟩
 have hm:=vm_ h.in_ hs hR hb
 refine⟨w6_ h.in_ hs hR,(fun h=>by cases h),fun _=>?_⟩
 cases b with
 |true=>have:=h.less rfl;omega
 |false=>rw [(h.same rfl).1,(h.same rfl).2.1] at hm ⊢;exact hm
theorem x6_ {A:Au} (hok:AuOk A) {T0 TL:List Tr} {I0 IS:List Bool} (h:RSt A T0 I0 TL IS false A.r.length 0):SmOk A TL IS:=by
 have hin:TabIn A (tabL TL IS):=⟨fun q t hq ht=>by
  cases hh:IS.getD q false with
  |true=>rw [hh_ hh] at ht;rw [← Option.some.inj ht];exact h.in_.yes q hq hh
  |false=>rw [oi_ hh] at ht;cases ht⟩
 have hfix:pu_ A (tabL TL IS):=fun i a h1 h2 l hl=>(h.same rfl).2.2 i a h1 h2 (.inl h1) l hl
 refine⟨h.in_.lt,h.in_.li,fun x hx hb=>?_,fun x hx hb=>⟨h.in_.no x hx hb,(p8_ hok hin hfix hx).2 (oi_ hb)⟩⟩
 exact (p8_ hok hin hfix hx).1 _ (hh_ hb)
theorem ut_ (A:Au):RIn A (List.replicate A.f.length (.node 0 [])) (List.replicate A.f.length false):=
 ⟨by simp,by simp,fun x hx h=>by simp [List.getD_eq_getElem?_getD,List.getElem?_replicate,hx] at h,fun x hx _=>by simp [List.getD_eq_getElem?_getD,List.getElem?_replicate,hx]⟩
theorem adv:Enters Try.prog 85:=fun args w=>by go_simp
instance:EntC Try.prog 85:=⟨adv⟩
noncomputable abbrev hd_:Code:=Try.f43.body.getD .skip
theorem gp_ {A:Au} {TL:List Tr} {IS:List Bool} (h:RIn A TL IS) {x:Nat} (hx:x<A.f.length):aw_ (TL.getD x (.node 0 []))≤4096∧TSm (TL.getD x (.node 0 [])):=by
 cases hb:IS.getD x false with
 |true=>exact⟨(h.yes x hx hb).z,cw_ 4096 _ (h.yes x hx hb).z (by decide)⟩
 |false=>rw [h.no x hx hb,aq_];exact⟨by decide,cw_ 1 _ (by rw [aq_];exact Nat.le_refl _) (by decide)⟩
theorem xq_ (A:Au) (hok:AuOk A) (TL:List Tr) (IS:List Bool) (h:RIn A TL IS) (q:Nat) (hq:q<A.f.length) (y:Int) (l:List Tr) (ht:aw_ (.node y l)≤9000):
  DLend Try.prog 85 [.own 1717986918400005 A.f.length,.own 1717986918400006 A.f.length,.flat (.int .i64 ((q:Nat):Int)),.agg [.flat (.int .i64 y),.sl false 2 l.length (ae_ l)]] [(1717986918400005,some (.row 74 2 A.f.length (ae_ TL))),(1717986918400006,some (.row 4 1 A.f.length (bC IS)))] [(1717986918400005,some (.row 74 2 A.f.length (ae_ (if bet TL IS q (.node y l) then TL.set q (.node y l) else TL)))),(1717986918400006,some (.row 4 1 A.f.length (bC (if bet TL IS q (.node y l) then IS.set q true else IS))))] (.flat (.bool (bet TL IS q (.node y l)))):=by
 obtain⟨z1,z2⟩:=gp_ h hq
 have h1:=h.lt
 have h2:=h.li
 obtain⟨u0,l0,e0,p0⟩:=cb_ (show q<TL.length by omega)
 have hts:=cw_ 9000 _ ht (by decide)
 have hs:=ho_ _ (.node y l) (Nat.le_refl _) hts
 have hc:=ok_ _ (.node y l) (TL.getD q (.node 0 [])) (Nat.le_refl _) hts z2
 have hw:=hn_ (.node y l) (by omega)
 have hIb:partD false 1 (q*1) (bC IS)=some (.flat (.bool (IS.getD q false))):=ef_ (by rw [List.getD_eq_getElem?_getD,List.getElem?_eq_getElem (by omega)];rfl)
 rw [hw] at hs
 rw [ak_] at hs hc
 have hk:=lh_ (.node y l) (show q<TL.length by omega)
 rw [a9_] at hk
 have hbe:bet TL IS q (.node y l)=true↔((aw_ (.node y l):Nat):Int)≤4096∧(IS.getD q false=false∨cmpT (.node y l) (TL.getD q (.node 0 []))<0):=by
  unfold bet
  rw [decide_eq_true_iff]
  constructor
  ·rintro⟨a,b⟩;exact⟨by omega,b⟩
  ·rintro⟨a,b⟩;exact⟨by omega,b⟩
 rw [e0] at hc hbe
 rw [ak_] at hc
 refine vs_ A.f.length q 0 hok.hi hq y l.length (ae_ l) _ _ _ _ (ah_ _) (ah_ _) (ah_ _) (al_ _) (al_ _) (by rw [dq_,h1]) (by rw [List.length_map,h2]) _ hIb _ _ u0 _ _ (ah_ _) p0 hs hc _ hbe (fun hr=>?_) (fun hr=>?_)
 ·rw [hr,if_pos rfl,if_pos rfl]
  exact⟨hk,⟨o5_ true (by omega)⟩⟩
 ·rw [hr,if_neg (by decide),if_neg (by decide)]
  exact⟨rfl,rfl⟩
theorem km_ {A:Au} (hok:AuOk A) {T0 TL:List Tr} {I0 IS:List Bool} {b:Bool} {y p q:Nat} {l:List Tr} (h:RSt A T0 I0 TL IS b y p) (hy:y<A.r.length) (hp:p<(rowN A y).length) (hq:succN A y p=q) (ha:∀ o∈opsN A.f.length (rankN A y) p,IS.getD o false=true) (hl:(opsN A.f.length (rankN A y) p).map (fun x=>TL.getD x (.node 0 []))=l):
  RSt A T0 I0 (if bet TL IS q (.node (y:Int) l) then TL.set q (.node (y:Int) l) else TL) (if bet TL IS q (.node (y:Int) l) then IS.set q true else IS) (bet TL IS q (.node (y:Int) l) || b) y (p+1):=by
 subst hq;subst hl
 cases hb:bet TL IS (succN A y p) (.node (y:Int) ((opsN A.f.length (rankN A y) p).map fun x=>TL.getD x (.node 0 []))) with
 |true=>
  rw [if_pos rfl,if_pos rfl,Bool.true_or]
  exact xn_ hok h hy hp ha hb
 |false=>
  rw [if_neg (by decide),if_neg (by decide),Bool.false_or]
  exact aa9 h ha hb
theorem zw_ {cc:Code} (hsel:selC [1,1,1,0,1,2,2,1,2,1,1,2,2] hd_=some cc) (A:Au) (hok:AuOk A) (T0:List Tr) (I0:List Bool) (y:Nat) (hy:y<A.r.length) (hk:rankN A y=0) (TL:List Tr) (IS:List Bool) (b:Bool) (h:RSt A T0 I0 TL IS b y 0):
  DW Try.prog 134 cc ⟨[(1,.ref 1 0),(4,.flat (.int .i64 ((A.f.length:Nat):Int))),(5,.own 1717986918400005 A.f.length),(6,.own 1717986918400006 A.f.length),(7,.flat (.bool b)),(8,.flat (.int .i64 ((y:Nat):Int)))],[(1,some (.box [.sl false 1 A.r.length (A.r.map fun x=>D.flat (.int .i64 x)),.sl false 1 A.f.length (A.f.map fun x=>D.flat (.bool x)),.sl false 1 A.to.length (aj_ A.to)])),(1717986918400005,some (.row 74 2 A.f.length (ae_ TL))),(1717986918400006,some (.row 4 1 A.f.length (bC IS)))]⟩ (fun e s'=> ∃ (T1:List Tr) (I1:List Bool) (b1:Bool),RSt A T0 I0 T1 I1 b1 (y+1) 0∧Nm 134 ⟨[(1,.ref 1 0),(4,.flat (.int .i64 ((A.f.length:Nat):Int))),(5,.own 1717986918400005 A.f.length),(6,.own 1717986918400006 A.f.length),(7,.flat (.bool b1)),(8,.flat (.int .i64 (((y+1):Nat):Int)))],[(1,some (.box [.sl false 1 A.r.length (A.r.map fun x=>D.flat (.int .i64 x)),.sl false 1 A.f.length (A.f.map fun x=>D.flat (.bool x)),.sl false 1 A.to.length (aj_ A.to)])),(1717986918400005,some (.row 74 2 A.f.length (ae_ T1))),(1717986918400006,some (.row 4 1 A.f.length (bC I1)))]⟩ e s'):=by
 obtain⟨r1,r2⟩:=bg_ hok hy
 obtain⟨w1,w2,w3⟩:=bq_ hok hy
 have hrk:=an_ r2
 have hrw:=dc_ w1
 have hrl:(rowN A y).length≤1000000:=(bj_ hok).l _ (List.mem_of_getElem? w1)
 have hlo:=hok.lo
 have hnn:=hok.hi
 have hll:=hok.alpha.hi
 have hTl:=hok.len
 have q1:=ab_ A.r
 have q2:=al_ A.f
 have q3:=ao_ A.to
 have q4:=ab_ (rowN A y)
 have pT:=ah_
 have pI:∀ l:List Bool,persL (bC l)=true:=al_
 rw [hk] at hrk w2
 have hrl1:(rowN A y).length=1:=by rw [w2,Nat.pow_zero]
 obtain⟨q,hq⟩:∃ q,succN A y 0=q:=⟨_,rfl⟩
 have hs1:(rowN A y)[0]?=some ((q:Nat):Int)∧q<A.f.length:=by
  have h1:=List.getElem?_eq_getElem (show 0<(rowN A y).length by omega)
  obtain⟨h2,h3⟩:=w3 0 _ h1
  rw [hq] at h2 h3
  exact⟨by rw [h1,h2],h3⟩
 have hpq:=an_ hs1.1
 have hqn:=hs1.2
 have hst:=ns_ (by rw [hrl1];exact km_ hok h hy (by omega) hq (by rw [hk];simp [opsN]) (l:=[]) (by rw [hk];simp [opsN]))
 have hbe:=h2_ (args':=[.own 1717986918400005 A.f.length,.own 1717986918400006 A.f.length,.flat (.int .i64 ((q:Nat):Int)),.agg [.flat (.int .i64 ((y:Nat):Int)),.flat (.slice none 0 0)]]) (xq_ A hok TL IS h.in_ q hqn (y:Int) [] (by rw [aq_];decide)) ⟨Le.refl _,Le.refl _,Le.refl _,Le.agg ⟨Le.refl _,Le.nil _ _,trivial⟩,trivial⟩ (Le.refl _)
 refine DW.mono (Q:=Nm 134 ⟨[(1,.ref 1 0),(4,.flat (.int .i64 ((A.f.length:Nat):Int))),(5,.own 1717986918400005 A.f.length),(6,.own 1717986918400006 A.f.length),(7,.flat (.bool (bet TL IS q (.node (y:Int) []) || b))),(8,.flat (.int .i64 (((y+1):Nat):Int)))],[(1,some (.box [.sl false 1 A.r.length (A.r.map fun x=>D.flat (.int .i64 x)),.sl false 1 A.f.length (A.f.map fun x=>D.flat (.bool x)),.sl false 1 A.to.length (aj_ A.to)])),(1717986918400005,some (.row 74 2 A.f.length (ae_ (if bet TL IS q (.node (y:Int) []) then TL.set q (.node (y:Int) []) else TL)))),(1717986918400006,some (.row 4 1 A.f.length (bC (if bet TL IS q (.node (y:Int) []) then IS.set q true else IS))))]⟩) ?_ (fun e s' h=>⟨_,_,_,hst,h⟩)
 have p1:=pT (if bet TL IS q (.node (y:Int) []) then TL.set q (.node (y:Int) []) else TL)
 have p2:=pI (if bet TL IS q (.node (y:Int) []) then IS.set q true else IS)
 have p3:=pT TL
 have p4:=pI IS
 clear hst h w1 w3 r2 hs1 hk hq
 generalize ae_ (if bet TL IS q (.node (y:Int) []) then TL.set q (.node (y:Int) []) else TL)=K1 at*
 generalize bC (if bet TL IS q (.node (y:Int) []) then IS.set q true else IS)=B1 at*
 generalize bet TL IS q (.node (y:Int) [])=r at*
 generalize ae_ TL=K0 at*
 generalize bC IS=B0 at*
 generalize ((rowN A y).map fun x=>D.flat (.int .i64 x))=RW at*
 generalize (rowN A y).length=rl at*
 generalize (A.r.map fun x=>D.flat (.int .i64 x))=LR at*
 generalize (A.f.map fun x=>D.flat (.bool x))=LB at*
 generalize aj_ A.to=LT at*
 generalize A.r.length=lr at*
 generalize A.f.length=n at*
 generalize A.to.length=lt at*
 refine DW.sel hsel (by rfl) ?_
 cases r
 all_goals
  simp only [Bool.false_or,Bool.true_or]
  refine DW.walk ?_
  exact Nm.mk Sub.auto
end Go.Proofs.Ytichhfbkhnimmaa
