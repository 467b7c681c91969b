/- Smallest trees: one candidate. No condition. -/
import Derived.Test.YtichhfbkhnimmaaVTM2
set_option linter.unusedSimpArgs false
set_option linter.unusedVariables false
set_option maxHeartbeats 4000000
set_option maxRecDepth 8000
namespace Go.Proofs.Ytichhfbkhnimmaa
open Go Go.RowKit Go.PP Go.Dm Go.Rt Go.Mn
theorem o3_:∀ l:List Tr,l.length≤bm_ l
 | []=>Nat.zero_le _
 |t::l=>by
  have:=o3_ l
  cases t with
  |node s k=>rw [bz_,aq_,List.length_cons];omega
theorem cw_:∀ (n:Nat) (t:Tr),aw_ t≤n→n≤1000000→TSm t
 |0,.node s l,h,_=>by rw [aq_] at h;omega
 |n+1,.node s l,h,hn=>by
  have h1:=o3_ l
  have h2:=h
  rw [aq_] at h2
  rw [cu_]
  refine⟨by omega,TSmL.of fun i t ht=>cw_ n t ?_ (by omega)⟩
  have:=cn_ (s:=s) (List.mem_of_getElem? ht)
  omega
noncomputable abbrev is_:Code:=Try.f42.body.getD .skip
theorem uj_ {cc:Code} (hsel:selC [1,1,1,1,1,1,1,1,0,1,2,2,1,1,0,2,1,1,2,2] is_=some cc) (lr lt n L m s cl i:Nat) (LR LB LT SZ OC KC TC T1 IC I1:List D) (q1:persL LR=true) (q2:persL LB=true) (q3:persL LT=true) (q4:persL SZ=true) (q5:persL OC=true) (q6:persL KC=true) (q7:persL TC=true) (q8:persL T1=true) (q9:persL IC=true) (q10:persL I1=true) (hn:n≤512) (hL:L≤512) (hs:s<n) (hi:i<cl) (hcl:cl≤1000000) (lT:TC.length=n*2) (lI:IC.length=n)
  (b:Bool) (hb:partD false 1 (s*1) IC=some (.flat (.bool b))) (u0 u1 c:Int) (l0 l1:Nat) (K0 K1:List D) (w0:persL K0=true) (w1:persL K1=true) (h0:partD true 2 (s*2) TC=some (.agg [.flat (.int .i64 u0),.sl false 2 l0 K0])) (h1:partD true 2 (i*2) KC=some (.agg [.flat (.int .i64 u1),.sl false 2 l1 K1])) (hc:DFun Try.prog 83 [.agg [.flat (.int .i64 u1),.sl false 2 l1 K1],.agg [.flat (.int .i64 u0),.sl false 2 l0 K0]] (.flat (.int .i64 c)))
  (hyes:(b=false∨c<0)→(List.take (s*2) TC++ [.flat (.int .i64 u1),.sl false 2 l1 K1]++List.drop (s*2+2) TC=T1)∧SplD IC (s*1) [.flat (.bool true)] I1) (hno:¬ (b=false∨c<0)→TC=T1∧IC=I1):
  DW Try.prog 112 cc ⟨[(1,.ref 1 0),(7,.ptr [.sl false 1 n SZ] 0),(8,.own 129807421463370690713262408230502400004 n),(9,.own 31 n),(49,.sl false 1 L OC),(50,.flat (.int .i64 ((L:Nat):Int))),(51,.flat (.int .i64 ((m:Nat):Int))),(13,.flat (.int .i64 ((s:Nat):Int))),(59,.sl false 2 cl KC),(60,.flat (.int .i64 ((cl:Nat):Int))),(61,.flat (.int .i64 ((i:Nat):Int)))],[(1,some (.box [.sl false 1 lr LR,.sl false 1 n LB,.sl false 1 lt LT])),(129807421463370690713262408230502400004,some (.row 78 2 n TC)),(31,some (.row 4 1 n IC))]⟩ (Nm 112 ⟨[(1,.ref 1 0),(7,.ptr [.sl false 1 n SZ] 0),(8,.own 129807421463370690713262408230502400004 n),(9,.own 31 n),(49,.sl false 1 L OC),(50,.flat (.int .i64 ((L:Nat):Int))),(51,.flat (.int .i64 ((m:Nat):Int))),(13,.flat (.int .i64 ((s:Nat):Int))),(59,.sl false 2 cl KC),(60,.flat (.int .i64 ((cl:Nat):Int))),(61,.flat (.int .i64 (((i+1):Nat):Int)))],[(1,some (.box [.sl false 1 lr LR,.sl false 1 n LB,.sl false 1 lt LT])),(129807421463370690713262408230502400004,some (.row 78 2 n T1)),(31,some (.row 4 1 n I1))]⟩):=by
 refine DW.sel hsel (by rfl) ?_
 by_cases hy:b=false∨c<0
 ·obtain⟨z1,z2⟩:=hyes hy
  clear hyes hno
  cases b with
  |false=>
   clear hy
   refine DW.walk ?_
   rw [z1]
   exact Nm.mk Sub.auto
  |true=>
   have hy:c<0:=by simpa using hy
   refine DW.walk ?_
   rw [z1]
   exact Nm.mk Sub.auto
 ·obtain⟨rfl,rfl⟩:=hno hy
  clear hyes hno
  cases b with
  |false=>exact absurd (.inl rfl) hy
  |true=>
   have hy:¬ c<0:=by simpa using hy
   refine DW.walk ?_
   exact Nm.mk Sub.auto
abbrev bC (l:List Bool):List D:=l.map fun b=>D.flat (.bool b)
theorem lh_ {TL:List Tr} {x:Nat} (u:Tr) (h:x<TL.length):List.take (x*2) (ae_ TL)++er_ u++List.drop (x*2+2) (ae_ TL)=ae_ (TL.set x u):=by
 rw [List.set_eq_take_append_cons_drop,if_pos h,c8_,dm_]
 have h1:ae_ TL=ae_ (TL.take x)++(er_ TL[x]++ae_ (TL.drop (x+1))):=by
  rw [← dm_,← c8_,← List.drop_eq_getElem_cons h,List.take_append_drop]
 have h2:(ae_ (TL.take x)).length=x*2:=by rw [dq_,List.length_take,Nat.min_eq_left (by omega)]
 have h3:(er_ TL[x]).length=2:=by
  generalize TL[x]=t
  cases t with
  |node s l=>rw [a9_];rfl
 rw [h1,List.take_left' h2,List.drop_append,h2,List.drop_eq_nil_of_le (by omega),List.nil_append,show x*2+2 - x*2=2 by omega,List.drop_left' h3,List.append_assoc]
theorem o5_ {l:List Bool} {x:Nat} (b:Bool) (h:x<l.length):spliceD (bC l) (x*1) [.flat (.bool b)]=bC (l.set x b):=by
 rw [Nat.mul_one,bi_ (by rw [List.length_map];exact h)]
 show (l.map _).set x _=(l.set x b).map _
 rw [List.map_set]
structure TInv (A:Au) (g:Nat→Nat) (n:Nat) (TL:List Tr) (IS:List Bool) (m:Nat):Prop where
 lt:TL.length=n
 li:IS.length=n
 yes:∀ j,j<m→Best A (g j:Int) (TL.getD (g j) (.node 0 []))∧IS.getD (g j) false=true
 no:∀ x,x<n→(∀ j,j<m→g j≠x)→TL.getD x (.node 0 [])=(.node 0 [])∧IS.getD x false=false
theorem b1_ {α:Type} (l:List α) (d:α) {x y:Nat} (u:α):(l.set x u).getD y d=if x=y∧x<l.length then u else l.getD y d:=by
 rw [List.getD_eq_getElem?_getD,List.getD_eq_getElem?_getD,List.getElem?_set]
 by_cases e:x=y
 ·subst e
  by_cases h:x<l.length
  ·simp [h]
  ·rw [if_pos rfl,if_neg h,if_neg (fun q=>h q.2),List.getElem?_eq_none (by omega)]
 ·rw [if_neg e,if_neg (fun q=>e q.1)]
theorem TInv.init (A:Au) (g:Nat→Nat) (n:Nat):TInv A g n (List.replicate n (.node 0 [])) (List.replicate n false) 0:=
 ⟨by simp,by simp,fun j h=>by omega,fun x hx _=>by simp [List.getD_eq_getElem?_getD,List.getElem?_replicate,hx]⟩
theorem TInv.next {A:Au} {g:Nat→Nat} {n L m:Nat} {TL:List Tr} {IS:List Bool} (h:TInv A g n TL IS m) (hm:m<L) (hg:∀ x,x<L→g x<n) (hinj:∀ x y,x<L→y<L→g x=g y→x=y) {b:Tr} (hb:Best A (g m:Int) b):TInv A g n (TL.set (g m) b) (IS.set (g m) true) (m+1):=by
 have h1:=h.lt
 have h2:=h.li
 have h3:=hg m hm
 refine⟨by rw [List.length_set,h1],by rw [List.length_set,h2],fun j hj=>?_,fun x hx hno=>?_⟩
 ·rw [b1_,b1_]
  by_cases e:j=m
  ·subst e
   rw [if_pos ⟨rfl,by omega⟩,if_pos ⟨rfl,by omega⟩]
   exact⟨hb,rfl⟩
  ·have hne:g m≠g j:=fun q=>e (hinj _ _ hm (by omega) q).symm
   rw [if_neg (fun q=>hne q.1),if_neg (fun q=>hne q.1)]
   exact h.yes j (by omega)
 ·have hne:g m≠x:=hno m (by omega)
  rw [b1_,b1_,if_neg (fun q=>hne q.1),if_neg (fun q=>hne q.1)]
  exact h.no x hx fun j hj=>hno j (by omega)
structure CInv (TL:List Tr) (IS:List Bool) (s:Nat) (C:List Tr) (i:Nat) (T1:List Tr) (I1:List Bool):Prop where
 h:(i=0∧T1=TL∧I1=IS)∨ ∃ t,t∈C.take i∧(∀ u∈C.take i,leT t u)∧T1=TL.set s t∧I1=IS.set s true
theorem fm_ {C:List Tr} {i:Nat} {u:Tr} (hu:C[i]?=some u) {v:Tr}:v∈C.take (i+1)↔v∈C.take i∨v=u:=by rw [List.take_add_one,hu];simp
theorem CInv.next {TL:List Tr} {IS:List Bool} {s:Nat} {C:List Tr} {i:Nat} {T1:List Tr} {I1:List Bool} (h:CInv TL IS s C i T1 I1) (hT:s<TL.length) (hS:s<IS.length) (h0:IS.getD s false=false) {u:Tr} (hu:C[i]?=some u):
  ((I1.getD s false=false∨cmpT u (T1.getD s (.node 0 []))<0)→CInv TL IS s C (i+1) (T1.set s u) (I1.set s true))∧(¬ (I1.getD s false=false∨cmpT u (T1.getD s (.node 0 []))<0)→CInv TL IS s C (i+1) T1 I1):=by
 rcases h.h with⟨rfl,rfl,rfl⟩| ⟨t,h1,h2,rfl,rfl⟩
 ·refine⟨fun _=>⟨.inr ⟨u,(fm_ hu).2 (.inr rfl),fun v hv=>?_,rfl,rfl⟩⟩,fun hn=>absurd (.inl h0) hn⟩
  rcases (fm_ hu).1 hv with hv|rfl
  ·simp at hv
  ·exact gg_ _
 ·rw [b1_,b1_,if_pos ⟨rfl,hS⟩,if_pos ⟨rfl,hT⟩]
  refine⟨fun hc=>?_,fun hc=>?_⟩
  ·have  hc:cmpT u t<0:=by rcases hc with hc|hc;(· cases hc);exact hc
   refine⟨.inr ⟨u,(fm_ hu).2 (.inr rfl),fun v hv=>?_,by rw [List.set_set],by rw [List.set_set]⟩⟩
   rcases (fm_ hu).1 hv with hv|rfl
   ·    have:=zx_ hc (h2 v hv)
        unfold leT;omega
   ·exact gg_ _
  ·refine⟨.inr ⟨t,(fm_ hu).2 (.inl h1),fun v hv=>?_,rfl,rfl⟩⟩
   rcases (fm_ hu).1 hv with hv|rfl
   ·exact h2 v hv
   ·exact (e5_ t v).resolve_right fun q=>hc (.inr q)
theorem CInv.done {TL:List Tr} {IS:List Bool} {s:Nat} {C:List Tr} {T1:List Tr} {I1:List Bool} (h:CInv TL IS s C C.length T1 I1) {b:Tr} (hb:b∈C) (hle:∀ u∈C,leT b u):T1=TL.set s b∧I1=IS.set s true:=by
 rcases h.h with⟨h,_⟩| ⟨t,h1,h2,h3,h4⟩
 ·rw [List.length_eq_zero_iff.1 h] at hb;cases hb
 ·rw [List.take_length] at h1 h2
  rw [h3,fb_ (h2 b hb) (hle t h1)]
  exact⟨rfl,h4⟩
end Go.Proofs.Ytichhfbkhnimmaa
