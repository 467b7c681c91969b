/- Smallest trees: the order, the least sizes. No condition. -/
import Derived.Test.YtichhfbkhnimmaaVTT4
import Derived.Test.YtichhfbkhnimmaaVSZ
import Derived.Test.YtichhfbkhnimmaaVDI2
set_option linter.unusedSimpArgs false
set_option linter.unusedVariables false
set_option maxHeartbeats 4000000
set_option maxRecDepth 8000
namespace Go.Proofs.Ytichhfbkhnimmaa
open Go Go.RowKit Go.PP Go.Dm Go.Rt Go.Mn
open Classical in
noncomputable def szO (A:Au) (x:Nat):Nat:=if h:∃ b,Best A (x:Int) b then aw_ (Classical.choose h) else 4097
theorem oy_ (A:Au):SizeOk A (szO A):=by
 have hy:∀ (x:Nat) (h:∃ b,Best A (x:Int) b),szO A x=aw_ (Classical.choose h):=fun x h=>by unfold szO;rw [dif_pos h]
 have hn:∀ x:Nat,(¬ ∃ b,Best A (x:Int) b)→szO A x=4097:=fun x h=>by unfold szO;rw [dif_neg h]
 refine⟨⟨fun x hx=>?_,fun x hx hne=>?_⟩,fun x t hx ht=>?_⟩
 ·by_cases h:∃ b,Best A (x:Int) b
  ·rw [hy x h]
   have:=(Classical.choose_spec h).1.z
   omega
  ·rw [hn x h];exact Nat.le_refl _
 ·by_cases h:∃ b,Best A (x:Int) b
  ·exact⟨_,(Classical.choose_spec h).1,(hy x h).symm⟩
  ·exact absurd (hn x h) hne
 ·have h:=tk_ ht
  rw [hy x h]
  have h1:=Classical.choose_spec h
  exact lt_ h1.1.z ht.z (h1.2 t ht)
theorem y4_ {A:Au} {sz:Nat→Nat} (h:SizeOk A sz) {x:Nat} (hx:x<A.f.length):sz x=szO A x:=by
 have h2:=oy_ A
 by_cases hb:∃ b,Best A (x:Int) b
 ·obtain⟨b,hb⟩:=hb
  rw [← h.best hx hb,← h2.best hx hb]
 ·have h3:¬ sz x<4097:=fun q=>hb ((h.ex hx).1 q)
  have h4:¬ szO A x<4097:=fun q=>hb ((h2.ex hx).1 q)
  have:=h.in_.le x hx
  have:=h2.in_.le x hx
  omega
theorem vb_ (A:Au) (hk:chk A=0):DFun Try.prog 79 [auD A] (.sl false 1 A.f.length ((szL A.f.length (szO A)).map fun x=>D.flat (.int .i64 x))):=by
 refine xt_ A hk _ fun sz h=>?_
 have:szL A.f.length (szO A)=szL A.f.length sz:=by
  unfold szL
  refine List.map_congr_left fun x hx=>?_
  rw [y4_ h (List.mem_range.1 hx)]
 rw [this]
def ordN (sz:Nat→Nat) (k:Nat):List Nat:=(List.range k).filter fun s=>decide (sz s<4097)
def ordC (sz:Nat→Nat) (k:Nat):List D:=(ordN sz k).map fun s=>D.flat (.int .i64 ((s:Nat):Int))
theorem yb_ {sz:Nat→Nat} {k:Nat} (h:sz k<4097):ordN sz (k+1)=ordN sz k++ [k]:=by unfold ordN;rw [List.range_succ,List.filter_append];simp [h]
theorem zd_ {sz:Nat→Nat} {k:Nat} (h:¬ sz k<4097):ordN sz (k+1)=ordN sz k:=by unfold ordN;rw [List.range_succ,List.filter_append];simp [h]
theorem ol_ (sz:Nat→Nat) (k:Nat):(ordN sz k).length≤k:=by unfold ordN;exact Nat.le_trans (List.length_filter_le ..) (by simp)
theorem ny_ {sz:Nat→Nat} {k s:Nat}:s∈ordN sz k↔s<k∧sz s<4097:=by unfold ordN;simp
theorem zm_ (sz:Nat→Nat) (k:Nat):(ordN sz k).Nodup:=List.Pairwise.filter _ List.nodup_range
theorem ys_ (sz:Nat→Nat) (k:Nat):ordC sz k=((szL (ordN sz k).length fun x=>(ordN sz k).getD x 0).map fun x=>D.flat (.int .i64 x)):=by
 unfold ordC szL
 rw [List.map_map]
 refine List.ext_getElem (by simp) fun i h1 h2=>?_
 simp only [List.getElem_map,List.getElem_range,Function.comp_apply]
 rw [List.getD_eq_getElem?_getD,List.getElem?_eq_getElem (by simpa using h1)]
 rfl
theorem to_ (sz:Nat→Nat) (k:Nat):persL (ordC sz k)=true:=ac_ (fun _=>rfl) _
structure SmOk (A:Au) (TL:List Tr) (IS:List Bool):Prop where
 lt:TL.length=A.f.length
 li:IS.length=A.f.length
 yes:∀ x,x<A.f.length→IS.getD x false=true→Best A (x:Int) (TL.getD x (.node 0 []))
 no:∀ x,x<A.f.length→IS.getD x false=false→TL.getD x (.node 0 [])=(.node 0 [])∧ ¬ ∃ t,Best A (x:Int) t
structure OrdOk (A:Au) (L:Nat) (g:Nat→Nat):Prop where
 hL:L≤A.f.length
 hg:∀ x,x<L→g x<A.f.length
 hg4:∀ x,x<L→szO A (g x)<4097
 hinj:∀ x y,x<L→y<L→g x=g y→x=y
 hall:∀ x,x<A.f.length→szO A x<4097→ ∃ j,j<L∧g j=x
 hsrt:SrtF (szO A) g (L - 1)
theorem zs_ (A:Au):OrdOk A (ordN (szO A) A.f.length).length (cj_ (szO A) (fun x=>(ordN (szO A) A.f.length).getD x 0) ((ordN (szO A) A.f.length).length - 1)):=by
 have hget:∀ x,x<(ordN (szO A) A.f.length).length→(ordN (szO A) A.f.length)[x]?=some ((ordN (szO A) A.f.length).getD x 0):=fun x h=>by rw [List.getD_eq_getElem?_getD,List.getElem?_eq_getElem h];rfl
 have hm:∀ x,x<(ordN (szO A) A.f.length).length→(ordN (szO A) A.f.length).getD x 0<A.f.length∧szO A ((ordN (szO A) A.f.length).getD x 0)<4097:=fun x h=>ny_.1 (List.mem_of_getElem? (hget x h))
 have hi:∀ x y,x<(ordN (szO A) A.f.length).length→y<(ordN (szO A) A.f.length).length→(ordN (szO A) A.f.length).getD x 0=(ordN (szO A) A.f.length).getD y 0→x=y:=fun x y hx hy e=>by
  have h1:=hget x hx
  have h2:=hget y hy
  rw [e,← h2] at h1
  exact (List.getElem?_inj hx (zm_ (szO A) A.f.length)).1 h1
 have ha:∀ x,x<A.f.length→szO A x<4097→ ∃ j,j<(ordN (szO A) A.f.length).length∧(ordN (szO A) A.f.length).getD j 0=x:=fun x hx h=>by
  obtain⟨j,hj,e⟩:=List.getElem_of_mem (ny_.2 ⟨hx,h⟩)
  refine⟨j,hj,?_⟩
  rw [List.getD_eq_getElem?_getD,List.getElem?_eq_getElem hj,e];rfl
 have hl:=ol_ (szO A) A.f.length
 generalize ordN (szO A) A.f.length=O at*
 have hp:PermF O.length (fun x=>O.getD x 0) (cj_ (szO A) (fun x=>O.getD x 0) (O.length - 1)):=by
  rcases Nat.eq_zero_or_pos O.length with h|h
  ·rw [h];exact PermF.refl _ _
  ·exact i4_ _ _ _ (by omega)
 have hback:∀ x,x<O.length→ ∃ z,z<O.length∧O.getD z 0=cj_ (szO A) (fun x=>O.getD x 0) (O.length - 1) x:=fun x hx=>(hp.mem _).1 ⟨x,hx,rfl⟩
 refine⟨hl,fun x hx=>?_,fun x hx=>?_,hp.inj hi,fun x hx h=>?_,pt_ _ _ _⟩
 ·obtain⟨z,hz,e⟩:=hback x hx
  rw [← e];exact (hm z hz).1
 ·obtain⟨z,hz,e⟩:=hback x hx
  rw [← e];exact (hm z hz).2
 ·exact (hp.mem x).2 (ha x hx h)
theorem ad6 {A:Au} {L:Nat} {g:Nat→Nat} (h:OrdOk A L g) {TL:List Tr} {IS:List Bool} (hI:TInv A g A.f.length TL IS L):SmOk A TL IS:=by
 have key:∀ x,x<A.f.length→(szO A x<4097→Best A (x:Int) (TL.getD x (.node 0 []))∧IS.getD x false=true)∧(¬ szO A x<4097→TL.getD x (.node 0 [])=(.node 0 [])∧IS.getD x false=false):=fun x hx=>by
  refine⟨fun h4=>?_,fun h4=>?_⟩
  ·obtain⟨j,hj,rfl⟩:=h.hall x hx h4
   exact hI.yes j hj
  ·exact hI.no x hx fun j hj e=>h4 (by rw [← e];exact h.hg4 j hj)
 refine⟨hI.lt,hI.li,fun x hx hb=>?_,fun x hx hb=>?_⟩
 ·by_cases h4:szO A x<4097
  ·exact ((key x hx).1 h4).1
  ·rw [((key x hx).2 h4).2] at hb;cases hb
 ·by_cases h4:szO A x<4097
  ·rw [((key x hx).1 h4).2] at hb;cases hb
  ·exact⟨((key x hx).2 h4).1,fun q=>h4 (((oy_ A).ex hx).2 q)⟩
theorem xz_ (A:Au) (hk:chk A=0) (h6:A.f.length≤6) (d:D) (hd:∀ TL IS,SmOk A TL IS→d= .tup [.sl false 2 A.f.length (ae_ TL),.sl false 1 A.f.length (bC IS),.flat (.int .i64 0)]):DFun Try.prog 42 [auD A] d:=by
 have hok:=a6_ hk
 have hc:=fy_ A (bj_ hok)
 rw [hk] at hc
 have hsz:=vb_ A hk
 have ho:=zs_ A
 have hz:=oy_ A
 have hle:∀ x,x<A.f.length→szO A x≤4097:=hz.in_.le
 have hm:=fun (cc:Code) (h:selC [1,1,1,1,1,1,1,1,0,1,2,2] is_=some cc) L g (o:OrdOk A L g) m hm TL IS hI=>abj h A hk (szO A) hz L g o.hL o.hg o.hg4 o.hinj o.hall o.hsrt m hm TL IS hI
 have hso:=wi_ (ordN (szO A) A.f.length).length A.f.length ((szL A.f.length (szO A)).map fun x=>D.flat (.int .i64 x)) (szO A) (fun x=>(ordN (szO A) A.f.length).getD x 0) (by have:=ol_ (szO A) A.f.length;omega) (by omega) (ab_ _) (fun x hx=>by
  have h1:(ordN (szO A) A.f.length)[x]?=some ((ordN (szO A) A.f.length).getD x 0):=by rw [List.getD_eq_getElem?_getD,List.getElem?_eq_getElem hx];rfl
  exact (ny_.1 (List.mem_of_getElem? h1)).1) (fun s hs=>⟨a4_ (szO A) hs,hle s hs⟩)
 rw [← ys_] at hso
 have hI0:=fun g=>TInv.init A g A.f.length
 have hend:=fun (L:Nat) (g:Nat→Nat) (o:OrdOk A L g) TL IS (h:TInv A g A.f.length TL IS L)=>ad6 o h
 have hstp:=fun (L:Nat) (g:Nat→Nat) (o:OrdOk A L g) (m:Nat) (hm:m<L) TL IS (h:TInv A g A.f.length TL IS m) b hb=>h.next hm o.hg o.hinj (b:=b) hb
 have hty:∀ k,szO A k<4097→(ordN (szO A) (k+1)).length=(ordN (szO A) k).length+1∧ordC (szO A) k++ [.flat (.int .i64 ((k:Nat):Int))]=ordC (szO A) (k+1):=fun k h=>by unfold ordC;rw [yb_ h];simp
 have htn:∀ k,¬ szO A k<4097→(ordN (szO A) (k+1)).length=(ordN (szO A) k).length∧ordC (szO A) k=ordC (szO A) (k+1):=fun k h=>by unfold ordC;rw [zd_ h];exact⟨rfl,rfl⟩
 have holn:=ol_ (szO A)
 have hop:=to_ (szO A)
 have hgp:=fun (k:Nat) (h:k<A.f.length)=>a4_ (szO A) h
 have e0:(ordN (szO A) 0).length=0:=rfl
 have e1:ordC (szO A) 0=[]:=rfl
 have hbz:List.replicate A.f.length (D.flat (.bool false))=bC (List.replicate A.f.length false):=by simp
 have hTs:∀ TL IS,SmOk A TL IS→ ∀ k,k<A.f.length→TSm (TL.getD k (.node 0 [])):=fun TL IS h k hk=>by
  cases hb:IS.getD k false with
  |true=>exact cw_ 4096 _ (h.yes k hk hb).1.z (by decide)
  |false=>rw [(h.no k hk hb).1];exact cw_ 1 _ (by rw [aq_];exact Nat.le_refl _) (by decide)
 have hcl:=fun (t:Tr) (h:TSm t)=>ty_ _ t (Nat.le_refl _) h
 have hcc:=fun (cc:Code) (h:selC [1,1,1,1,1,1,1,1,1,0,1,2,2] is_=some cc)=>aay h
 have hlo:=hok.lo
 have q1:=ab_ A.r
 have q2:=al_ A.f
 have q3:=ao_ A.to
 have q4:=ab_ (szL A.f.length (szO A))
 have pT:=ah_
 have pI:∀ l:List Bool,persL (bC l)=true:=al_
 have pS:=fun g=>ab_ (szL (ordN (szO A) A.f.length).length g)
 have qT:=pT (List.replicate A.f.length (.node 0 []))
 have qI:=pI (List.replicate A.f.length false)
 have hsml:∀ TL IS,SmOk A TL IS→TL.length=A.f.length∧IS.length=A.f.length∧ ∀ k,k<A.f.length→IS.getD k false=false→TL.getD k (.node 0 [])=(.node 0 []):=fun TL IS h=>⟨h.lt,h.li,fun k hk hb=>(h.no k hk hb).1⟩
 generalize cj_ (szO A) (fun x=>(ordN (szO A) A.f.length).getD x 0) ((ordN (szO A) A.f.length).length - 1)=g at*
 rw [a1_ A] at hc hsz ⊢
 clear hz
 generalize (A.r.map fun x=>D.flat (.int .i64 x))=LR at*
 generalize (A.f.map fun x=>D.flat (.bool x))=LB at*
 generalize aj_ A.to=LT at*
 generalize ((szL A.f.length (szO A)).map fun x=>D.flat (.int .i64 x))=SZ at*
 generalize A.r.length=lr at*
 generalize A.to.length=lt at*
 obtain⟨OL,hOL⟩:∃ OL:Nat→Nat,OL=fun k=>(ordN (szO A) k).length:=⟨_,rfl⟩
 obtain⟨OD,hOD⟩:∃ OD:Nat→List D,OD=ordC (szO A):=⟨_,rfl⟩
 have hOL1:∀ k,(ordN (szO A) k).length=OL k:=fun k=>by rw [hOL]
 simp only [← hOD] at*
 simp only [hOL1] at*
 clear hOL hOD hOL1
 generalize szO A=sz at*
 generalize hnn:A.f.length=n at*
 generalize hKZ:ae_ (List.replicate n (.node 0 []))=KZ at*
 generalize hBZ:bC (List.replicate n false)=BZ at*
 refine DFun.enterA Try.func42 Try.ntmps42 ?_
 refine DW.walkTo 6 ?_
 refine DW.regD rfl (by kernel_rfl) ?_
 refine DC.walk ?_
 refine DC.t (t5_ 129807421463370690713262408230502400004 76 _ _ Try.underlying76 (by kernel_rfl) (by omega) (by decide +kernel)) ⟨rfl,rfl,trivial⟩ ⟨rfl,trivial⟩ ?_
 refine DC.walkTo 8 ?_
 rw [hbz,hKZ]
 refine DW.adopt 10 923237923610951731200003 3 1 rfl rfl ?_
 refine DW.walk ?_
 refine DW.loopA (fun k:Nat=>⟨[(1,.ref 1 0),(6,.flat (.int .i64 ((n:Nat):Int))),(7,.ref 7 0),(8,.own 129807421463370690713262408230502400004 n),(9,.own 31 n),(10,.own 923237923610951731200003 (OL k)),(32,.flat (.int .i64 ((n:Nat):Int))),(33,.flat (.int .i64 ((k:Nat):Int)))],[(1,some (.box [.sl false 1 lr LR,.sl false 1 n LB,.sl false 1 lt LT])),(7,some (.box [.sl false 1 n SZ])),(129807421463370690713262408230502400004,some (.row 78 2 n KZ)),(31,some (.row 4 1 n BZ)),(923237923610951731200003,some (.row 3 1 (OL k) (OD k)))]⟩) (fun k=>k≤n) (fun k=>n - k) 0 ?_ (Nat.zero_le _) (by rw [e0,e1];exact Sub.auto)
 intro k hk2
 have hol:=holn k
 have p0:=hop k
 rcases Nat.lt_or_ge k n with hlt|hge
 ·have hp:=hgp k hlt
  have p1:=hop (k+1)
  have hkl:=hle k hlt
  by_cases h4:sz k<4097
  ·obtain⟨a1,a2⟩:=hty k h4
   clear hty htn hm hso hI0 hend hstp hTs hcl hcc hgp hsml
   generalize hX1:OD (k+1)=X1 at*
   generalize OD k=X0 at*
   generalize hl1:OL (k+1)=n1 at*
   generalize OL k=n0 at*
   generalize sz k=v at*
   refine DW.walk ?_
   rw [a2]
   exact⟨k+1,by omega,by omega,by rw [hl1,hX1,a1];exact Sub.auto⟩
  ·obtain⟨a1,a2⟩:=htn k h4
   clear hty htn hm hso hI0 hend hstp hTs hcl hcc hgp hsml
   rw [← a1] at*
   rw [a2] at*
   generalize hX1:OD (k+1)=X1 at*
   generalize hl1:OL (k+1)=n1 at*
   generalize sz k=v at*
   refine DW.walk ?_
   exact⟨k+1,by omega,by omega,by rw [hl1,hX1];exact Sub.auto⟩
 ·obtain  rfl:n=k:=by omega
  have pg:=pS g
  have hm2:=fun (cc:Code) (h:selC [1,1,1,1,1,1,1,1,0,1,2,2] is_=some cc)=>hm cc h (OL n) g ho
  have hst2:=hstp (OL n) g ho
  have hen2:=hend (OL n) g ho
  have hI2:=hI0 g
  clear hty htn holn hgp hm hend hI0 hstp hop pS hbz e0 e1 hle
  generalize hL:OL n=L at*
  generalize OD n=X0 at*
  generalize ((szL L g).map fun x=>D.flat (.int .i64 x))=OC at*
  refine DW.walkTo 14 ?_
  refine DW.sub (s':=⟨[(1,.ref 1 0),(7,.ptr [.sl false 1 n SZ] 0),(8,.own 129807421463370690713262408230502400004 n),(9,.own 31 n),(10,.own 923237923610951731200003 L)],[(1,some (.box [.sl false 1 lr LR,.sl false 1 n LB,.sl false 1 lt LT])),(129807421463370690713262408230502400004,some (.row 78 2 n KZ)),(31,some (.row 4 1 n BZ)),(923237923610951731200003,some (.row 3 1 L X0))]⟩) Sub.auto ?_
  refine DW.walkTo 15 ?_
  refine DW.sub (s':=⟨[(1,.ref 1 0),(7,.ptr [.sl false 1 n SZ] 0),(8,.own 129807421463370690713262408230502400004 n),(9,.own 31 n),(10,.sl false 1 L OC)],[(1,some (.box [.sl false 1 lr LR,.sl false 1 n LB,.sl false 1 lt LT])),(129807421463370690713262408230502400004,some (.row 78 2 n KZ)),(31,some (.row 4 1 n BZ))]⟩) Sub.auto ?_
  clear hso hsz
  refine DW.walk ?_
  rw [← hKZ,← hBZ]
  refine DW.loopA (fun x:Nat × List Tr × List Bool=>⟨[(1,.ref 1 0),(7,.ptr [.sl false 1 n SZ] 0),(8,.own 129807421463370690713262408230502400004 n),(9,.own 31 n),(49,.sl false 1 L OC),(50,.flat (.int .i64 ((L:Nat):Int))),(51,.flat (.int .i64 ((x.1:Nat):Int)))],[(1,some (.box [.sl false 1 lr LR,.sl false 1 n LB,.sl false 1 lt LT])),(129807421463370690713262408230502400004,some (.row 78 2 n (ae_ x.2.1))),(31,some (.row 4 1 n (bC x.2.2)))]⟩) (fun x=>x.1≤L∧TInv A g n x.2.1 x.2.2 x.1) (fun x=>L - x.1) (0,List.replicate n (.node 0 []),List.replicate n false) ?_ ⟨Nat.zero_le _,hI2⟩ (by show Sub _ _ ⟨[(1,.ref 1 0),(7,.ptr [.sl false 1 n SZ] 0),(8,.own 129807421463370690713262408230502400004 n),(9,.own 31 n),(49,.sl false 1 L OC),(50,.flat (.int .i64 ((L:Nat):Int))),(51,.flat (.int .i64 ((0:Nat):Int)))],[(1,some (.box [.sl false 1 lr LR,.sl false 1 n LB,.sl false 1 lt LT])),(129807421463370690713262408230502400004,some (.row 78 2 n (ae_ (List.replicate n (.node 0 []))))),(31,some (.row 4 1 n (bC (List.replicate n false))))]⟩;rw [hKZ,hBZ];exact Sub.auto)
  rintro⟨m,TL,IS⟩ ⟨hml,hI⟩
  simp only at hml hI
  rcases Nat.lt_or_ge m L with hlt|hge3
  ·refine (hm2 _ (by rfl) m hlt TL IS hI).mono ?_
   rintro e s' ⟨b,hb,rfl,hsub⟩
   exact⟨(m+1,_,_),⟨by show m+1≤L;omega,hst2 m hlt TL IS hI b hb⟩,by show L - (m+1)<L - m;omega,hsub⟩
  ·obtain rfl:m=L:=by omega
   have hS:=hen2 TL IS hI
   have hdd:=hd TL IS hS
   obtain⟨t1,t2,t3⟩:=hsml TL IS hS
   have hts:=hTs TL IS hS
   subst hdd
   have hpt:=fun k (h:k<n)=>cb_ (TL:=TL) (x:=k) (by omega)
   have hpb:∀ k,k<n→partD false 1 (k*1) (bC IS)=some (.flat (.bool (IS.getD k false))):=fun k h=>ef_ (by rw [List.getD_eq_getElem?_getD,List.getElem?_eq_getElem (by omega)];rfl)
   have   hks:=fun (k:Nat) (h:k<n) (u:Tr) (e:TL.getD k (.node 0 [])=u)=>(show List.take (k*2) (ae_ TL)++er_ u++List.drop (k*2+2) (ae_ TL)=ae_ TL from by
        have h1:=lh_ u (show k<TL.length by omega)
        rw [h1]
        congr 1
        have h2:TL[k]?=some u:=by rw [← e,List.getD_eq_getElem?_getD,List.getElem?_eq_getElem (by omega)];rfl
        exact List.ext_getElem? fun j=>by
         rw [List.getElem?_set]
         by_cases hj:k=j
         ·subst hj;rw [if_pos rfl,if_pos (by omega),h2]
         ·rw [if_neg hj])
   have p7:=pT TL
   have p9:=pI IS
   have l7:(ae_ TL).length=n*2:=by rw [dq_,t1]
   have l9:(bC IS).length=n:=by rw [List.length_map,t2]
   show DW _ _ _ ⟨[(1,.ref 1 0),(7,.ptr [.sl false 1 n SZ] 0),(8,.own 129807421463370690713262408230502400004 n),(9,.own 31 n),(49,.sl false 1 m OC),(50,.flat (.int .i64 ((m:Nat):Int))),(51,.flat (.int .i64 ((m:Nat):Int)))],[(1,some (.box [.sl false 1 lr LR,.sl false 1 n LB,.sl false 1 lt LT])),(129807421463370690713262408230502400004,some (.row 78 2 n (ae_ TL))),(31,some (.row 4 1 n (bC IS)))]⟩ _
   clear hm2 hst2 hen2 hI2 hTs hsml hI hS hd hKZ hBZ qT qI
   generalize hTC:ae_ TL=TC at*
   generalize hIC:bC IS=IC at*
   refine DW.walk ?_
   refine DW.loopA (fun k:Nat=>⟨[(1,.ref 1 0),(8,.own 129807421463370690713262408230502400004 n),(9,.own 31 n),(88,.own 129807421463370690713262408230502400004 n),(89,.flat (.int .i64 ((n:Nat):Int))),(90,.flat (.int .i64 ((k:Nat):Int)))],[(1,some (.box [.sl false 1 lr LR,.sl false 1 n LB,.sl false 1 lt LT])),(129807421463370690713262408230502400004,some (.row 78 2 n TC)),(31,some (.row 4 1 n IC))]⟩) (fun k=>k≤n) (fun k=>n - k) 0 ?_ (Nat.zero_le _)
   intro k hk3
   rcases Nat.lt_or_ge k n with hlt|hge4
   ·    obtain⟨u0,l0,a1,a2⟩:=hpt k hlt
        have a3:=hcl _ (hts k hlt)
        have a4:=hks k hlt _ a1
        rw [a1,ak_] at a3
        rw [a9_] at a4
        refine (hcc _ (by rfl) lr lt n k LR LB LT TC IC q1 q2 q3 p7 p9 (by omega) hlt l7 l9 _ (hpb k hlt) u0 _ _ (pT _) a2 a3 a4 (fun hb=>?_)).mono ?_
        ·have h7:=t3 k hlt hb
         rw [a1] at h7
         cases h7
         exact⟨rfl,rfl,co_⟩
        ·rintro e s' ⟨rfl,hsub⟩
         exact⟨k+1,by omega,by omega,hsub⟩
   ·    obtain rfl:n=k:=by omega
        clear hpt hpb hks hts hcl hcc t3
        refine DW.walk ?_
        exact⟨.inr rfl,ResOk.three [(129807421463370690713262408230502400004,some (.row 78 2 n TC)),(31,some (.row 4 1 n IC))] rfl rfl rfl rfl ⟨rfl,rfl,trivial⟩ (Vw.own (.head _) (VwL.pers p7)) (Vw.own (.tail _ (.head _)) (VwL.pers p9)) (Vw.pers rfl)⟩
end Go.Proofs.Ytichhfbkhnimmaa
