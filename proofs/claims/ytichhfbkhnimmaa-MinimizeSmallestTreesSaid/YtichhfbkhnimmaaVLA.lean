/- Smallest trees: depth, one table alone. No condition. -/
import Derived.Test.YtichhfbkhnimmaaVTT6
set_option linter.unusedSimpArgs false
set_option linter.unusedVariables false
set_option maxHeartbeats 4000000
set_option maxRecDepth 8000
namespace Go.Proofs.Ytichhfbkhnimmaa
open Go Go.RowKit Go.PP Go.Dm Go.Rt Go.Mn
theorem tc_ {c:Nat}:∀ {l:List Tr},(∀ t∈l,depT t≤c)→depL l≤c
 | [],_=>by rw [depL];omega
 |t::l,h=>by
  rw [depL]
  have h1:=h t (by simp)
  have h2:=tc_ (l:=l) fun u hu=>h u (List.mem_cons_of_mem _ hu)
  omega
mutual
theorem o6_:∀ t:Tr,depT t≤1000→fo_ t=(depT t:Int)
 | .node s l,h=>by
   rw [ax_] at h ⊢
   have h0:=po_ l 0 (by omega) (by omega)
   rw [show ((0:Nat):Int)=0 from rfl] at h0
   rw [fo_,h0]
   omega
theorem po_:∀ (l:List Tr) (n:Nat),depL l≤1000→n≤1000→fp_ (n:Int) l=((max n (depL l):Nat):Int)+1
 | [],n,_,hn=>by
   rw [fp_,depL,tm_ (by omega) (by omega)]
   omega
 | t::ts,n,h,hn=>by
   rw [depL] at h
   rw [fp_,depL,o6_ t (by omega)]
   have h2:=po_ ts (max n (depT t)) (by omega) (by omega)
   rw [show (if (depT t:Int)>(n:Int) then (depT t:Int) else (n:Int))=((max n (depT t):Nat):Int) by split <;> omega,h2]
   omega
end
theorem vy_ {A:Au} (hok:AuOk A) {q:Int} {t:Tr} (h:Go.Mn.Reach A q t):∃ x:Nat,q=(x:Int)∧x<A.f.length:=by
 have h1:=b0_ hok (eo_ hok t h.n)
 rw [h.s] at h1
 obtain⟨x,hx⟩:=Int.eq_ofNat_of_zero_le h1.1
 exact⟨x,hx,by have:=h1.2;omega⟩
theorem o9_ {A:Au} (hok:AuOk A):∀ (k:Nat) (t:Tr) (q:Nat),aw_ t≤k→q<A.f.length→Best A (q:Int) t→depT t≤(List.range A.f.length).countP fun x=>decide (szO A x≤aw_ t)
 |0,.node s l,q,h,_,_=>by rw [aq_] at h;omega
 |k+1,.node s l,q,h,hq,hb=>by
  have hsz:=(oy_ A).best hq hb
  have hpos:0<(List.range A.f.length).countP fun x=>decide (szO A x≤aw_ (.node s l)):=List.countP_pos_iff.2 ⟨q,by simpa using hq,by rw [hsz];simp⟩
  rw [ax_]
  have hk:∀ t∈l,depT t≤(List.range A.f.length).countP (fun x=>decide (szO A x≤aw_ (.node s l))) - 1:=fun t ht=>by
   have h1:=mc_ hb t ht
   have h2:=cn_ (s:=s) ht
   obtain⟨x,hx,hxn⟩:=vy_ hok h1.1
   rw [hx] at h1
   have h3:=o9_ hok k t x (by omega) hxn h1
   have h4:=ht_ (p:=fun x=>decide (szO A x≤aw_ t)) (q:=fun x=>decide (szO A x≤aw_ (.node s l))) (x:=q) (l:=List.range A.f.length) (fun y hy=>decide_eq_true (by have:=of_decide_eq_true hy;omega)) (by simpa using hq) (decide_eq_false (by rw [← hsz];omega)) (decide_eq_true (by rw [← hsz];exact Nat.le_refl _))
   omega
  have:=tc_ hk
  omega
theorem qd_ {A:Au} (hk:chk A=0) (h6:A.f.length≤6) {q:Nat} (hq:q<A.f.length) {t:Tr} (hb:Best A (q:Int) t):rightE A.r t=0:=by
 have h1:=o9_ (a6_ hk) _ t q (Nat.le_refl _) hq hb
 have h2:=List.countP_le_length (p:=fun x=>decide (szO A x≤aw_ t)) (l:=List.range A.f.length)
 rw [List.length_range] at h2
 have h3:=o6_ t (by omega)
 have h4:=hb.1.z
 have h5:=hn_ t (by omega)
 unfold rightE
 rw [eb_ hk,if_neg (by decide),if_neg (by omega),if_neg (by omega)]
 exact hb.1.n
theorem rg_ {A:Au} {T1 T2:List Tr} {I1 I2:List Bool} (h1:SmOk A T1 I1) (h2:SmOk A T2 I2):T1=T2∧I1=I2:=by
 have key:∀ x,x<A.f.length→I1.getD x false=I2.getD x false∧T1.getD x (.node 0 [])=T2.getD x (.node 0 []):=fun x hx=>by
  cases e1:I1.getD x false <;> cases e2:I2.getD x false
  ·exact⟨rfl,by rw [(h1.no x hx e1).1,(h2.no x hx e2).1]⟩
  ·exact absurd ⟨_,h2.yes x hx e2⟩ (h1.no x hx e1).2
  ·exact absurd ⟨_,h1.yes x hx e1⟩ (h2.no x hx e2).2
  ·exact⟨rfl,(h1.yes x hx e1).uniq (h2.yes x hx e2)⟩
 have l1:=h1.lt
 have l2:=h2.lt
 have m1:=h1.li
 have m2:=h2.li
 constructor
 ·refine List.ext_getElem (by omega) fun i a b=>?_
  have:=(key i (by omega)).2
  rw [List.getD_eq_getElem?_getD,List.getD_eq_getElem?_getD,List.getElem?_eq_getElem a,List.getElem?_eq_getElem b] at this
  exact this
 ·refine List.ext_getElem (by omega) fun i a b=>?_
  have:=(key i (by omega)).1
  rw [List.getD_eq_getElem?_getD,List.getD_eq_getElem?_getD,List.getElem?_eq_getElem a,List.getElem?_eq_getElem b] at this
  exact this
theorem abw (A:Au) (hk:chk A=0):∃ TL IS,SmOk A TL IS:=by
 have h:∀ x:Nat,∃ (t:Tr) (b:Bool),(b=true→Best A (x:Int) t)∧(b=false→t=(.node 0 [])∧ ¬ ∃ u,Best A (x:Int) u):=fun x=>by
  by_cases hb:∃ u,Best A (x:Int) u
  ·obtain⟨u,hu⟩:=hb
   exact⟨u,true,fun _=>hu,fun e=>by cases e⟩
  ·exact⟨(.node 0 []),false,(fun e=>by cases e),fun _=>⟨rfl,hb⟩⟩
 obtain⟨f,hf⟩:=Classical.axiomOfChoice h
 obtain⟨g,hg⟩:=Classical.axiomOfChoice hf
 refine⟨(List.range A.f.length).map f,(List.range A.f.length).map g,by simp,by simp,fun x hx hb=>?_,fun x hx hb=>?_⟩
 ·have e1:((List.range A.f.length).map f).getD x (.node 0 [])=f x:=by simp [List.getD_eq_getElem?_getD,hx]
  have e2:((List.range A.f.length).map g).getD x false=g x:=by simp [List.getD_eq_getElem?_getD,hx]
  rw [e2] at hb
  rw [e1]
  exact (hg x).1 hb
 ·have e1:((List.range A.f.length).map f).getD x (.node 0 [])=f x:=by simp [List.getD_eq_getElem?_getD,hx]
  have e2:((List.range A.f.length).map g).getD x false=g x:=by simp [List.getD_eq_getElem?_getD,hx]
  rw [e2] at hb
  rw [e1]
  exact (hg x).2 hb
end Go.Proofs.Ytichhfbkhnimmaa
