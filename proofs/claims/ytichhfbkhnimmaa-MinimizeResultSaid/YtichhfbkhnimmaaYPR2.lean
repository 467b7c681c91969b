/- The reference: a round with a constant. No condition. -/
import Derived.Test.YtichhfbkhnimmaaYRF
import Derived.Test.YtichhfbkhnimmaaYPD
import Derived.Test.YtichhfbkhnimmaaYFO4
set_option linter.unusedSimpArgs false
set_option linter.unusedVariables false
set_option maxHeartbeats 4000000
set_option maxRecDepth 8000
namespace Go.Proofs.Ytichhfbkhnimmaa
open Go Go.RowKit Go.PP Go.Dm Go.Rt Go.Mn
theorem t9_ (A:Au) (hok:AuOk A) (s:Nat) (hs:A.r[s]?=some (0:Int)) (F C:List Int) (ho:OutOk A (F++C)):DFun Try.prog 101 [auD A,.flat (.int .i64 ((s:Nat):Int)),.sl false 1 F.length (F.map fun x=>D.flat (.int .i64 x)),.sl false 1 C.length (C.map fun x=>D.flat (.int .i64 x))] (.sl false 1 (addC A s F (bh_ F 0 []) C).length ((addC A s F (bh_ F 0 []) C).map fun x=>D.flat (.int .i64 x))):=by
 have hsl:=(List.getElem?_eq_some_iff.1 hs).1
 have hn:=hok.hi
 have hrl:=hok.alpha.hi
 have hF:=ho.len
 rw [List.length_append] at hF
 have hfits:∀ x∈bh_ F 0 [],Fits A s x:=fun x hx=>c2_ (by omega) (by omega) (fun x hx=>ho.rng x (List.mem_append.2 (.inl hx))) 0 [] (by rw [Int.toNat_natCast,List.getD_eq_getElem?_getD,hs];rfl) (by simp) x hx
 have hstep:=fun l hl=>iy_ A hok s l (hfits l hl)
 have hlen:=ls_ hok hfits ho
 have hrp:=as_ hs
 have hhas:=fun (l:List Int) (h:l.length≤1000000) (v:Int)=>nm_ l h v
 have hhF:=fun v:Int=>nm_ F (by omega) v
 have hFp:=ad_ F
 have hFt:∀ (i:Nat) (x:Int),F[i]?=some x→partD false 1 (i*1) (F.map fun x=>D.flat (.int .i64 x))=some (.flat (.int .i64 x)):=fun i x h=>as_ h
 have h90:=OwnAt.of 90
 have hpI:=fun U:List Int=>ad_ U
 have hoI:=fun U:List Int=>b0_ U
 have hsn:=fun (j:Nat) (l:List Int) (h:(bh_ F 0 [])[j]?=some l)=>ii_ A s F C h
 generalize hLS:bh_ F 0 []=LS at*
 have q1:=ad_ A.r
 have q2:=ai_ A.f
 have q3:=al_ A.to
 rw [au_ A] at hstep ⊢
 generalize (A.r.map fun x=>D.flat (.int .i64 x))=LR at*
 generalize (A.f.map fun x=>D.flat (.bool x))=LB at*
 generalize ag_ A.to=LT at*
 have hLS2:LS=[[]]:=hLS.symm
 have hrow:∀ j l,LS[j]?=some l→partD false 1 (j*1) [D.flat (.slice none 0 0)]=some (.flat (.slice none 0 0))∧l=[]:=fun j l h=>by
  rw [hLS2] at h
  cases j with
  |zero=>simp at h;exact⟨rfl,h⟩
  |succ j=>simp at h
 have hl1:LS.length=1:=by rw [hLS2];rfl
 generalize (F.map fun x=>D.flat (.int .i64 x))=FL at*
 refine DFun.enterA Try.func101 Try.ntmps101 ?_
 refine DW.walk ?_
 refine DW.loopA (fun j:Nat=>⟨[(1,.flat (.int .i64 ((s:Nat):Int))),(2,.sl false 1 F.length FL),(3,.sl false 1 (addC A s F (LS.take j) C).length ((addC A s F (LS.take j) C).map fun x=>D.flat (.int .i64 x))),(4,.ref 4 0),(9,.sl true 1 1 [.flat (.slice none 0 0)]),(13,.flat (.int .i64 ((j:Nat):Int)))],[(4,some (.box [.sl false 1 A.r.length LR,.sl false 1 A.f.length LB,.sl false 1 A.to.length LT]))]⟩) (fun j=>j≤LS.length) (fun j=>LS.length - j) 0 ?_ (Nat.zero_le _)
 intro j hj
 rcases Nat.lt_or_ge j LS.length with hlt|hge
 ·obtain ⟨l,hl⟩:∃ l,LS[j]?=some l:=⟨_,List.getElem?_eq_getElem hlt⟩
  have hr:=(hrow j l hl).1
  have hst:=hstep l (List.mem_of_getElem? hl)
  rw [show D.sl false 1 l.length (l.map fun x=>D.flat (.int .i64 x))= .sl false 1 0 [] by rw [(hrow j l hl).2];rfl] at hst
  have hs1:=hsn j l hl
  have hl0:=hlen j
  have hf0:=hhF (atI A s l)
  have hc0:=hhas (addC A s F (LS.take j) C) (by omega) (atI A s l)
  have p0:=hpI (addC A s F (LS.take j) C)
  have p1:=hpI (addC A s F (LS.take (j+1)) C)
  have o0:=hoI (addC A s F (LS.take j) C)
  have mF:= @cw_ F (atI A s l)
  have mC:= @cw_ (addC A s F (LS.take j) C) (atI A s l)
  unfold m5_ at hs1
  generalize hC1:(addC A s F (LS.take (j+1)) C)=C1 at*
  generalize (addC A s F (LS.take j) C)=C0 at*
  generalize hasI F (atI A s l)=xF at*
  generalize hasI C0 (atI A s l)=xC at*
  by_cases h1:atI A s l∈F
  ·have hx:=mF.2 h1
   rw [if_pos (.inl h1)] at hs1
   subst hs1
   clear hrow hstep hsn hlen hhas hhF hpI hoI hfits hFt
   refine DW.walk ?_
   exact⟨j+1,by omega,by omega,by rw [hC1];exact Sub.auto⟩
  ·have  hx:¬ 0≤xF:=fun h=>h1 (mF.1 h)
   by_cases h2:atI A s l∈C0
   ·    have hx2:=mC.2 h2
        rw [if_pos (.inr h2)] at hs1
        subst hs1
        clear hrow hstep hsn hlen hhas hhF hpI hoI hfits hFt
        refine DW.walk ?_
        exact⟨j+1,by omega,by omega,by rw [hC1];exact Sub.auto⟩
   ·    have hx2:¬ 0≤xC:=fun h=>h2 (mC.1 h)
        rw [if_neg (by rintro (h|h);exact h1 h;exact h2 h)] at hs1
        have hc1:(C0.map fun x=>D.flat (.int .i64 x))++ [.flat (.int .i64 (atI A s l))]=(C1.map fun x=>D.flat (.int .i64 x)):=by rw [hs1,List.map_append];rfl
        have hc2:C1.length=C0.length+1:=by rw [hs1,List.length_append];rfl
        generalize hX1:(C1.map fun x=>D.flat (.int .i64 x))=X1 at*
        generalize (C0.map fun x=>D.flat (.int .i64 x))=X0 at*
        clear hrow hstep hsn hlen hhas hhF hpI hoI hfits hFt
        refine DW.walk ?_
        try simp only [List.nil_append]
        rw [hc1]
        exact⟨j+1,by omega,by omega,by rw [hC1,hX1,hc2];exact Sub.auto⟩
 ·obtain rfl:j=LS.length:=by omega
  rw [List.take_length]
  have p0:=hpI (addC A s F LS C)
  generalize addC A s F LS C=C0 at*
  generalize (C0.map fun x=>D.flat (.int .i64 x))=X0 at*
  clear hrow hstep hsn hlen hhas hhF hpI hoI hfits hFt
  refine DW.walk ?_
  exact⟨.inr rfl,ResOk.one [] rfl rfl trivial (Vw.pers rfl)⟩
theorem wa_ (A:Au) (hok:AuOk A) (s:Nat) (hs:A.r[s]?=some (1:Int)) (F C:List Int) (ho:OutOk A (F++C)):DFun Try.prog 101 [auD A,.flat (.int .i64 ((s:Nat):Int)),.sl false 1 F.length (F.map fun x=>D.flat (.int .i64 x)),.sl false 1 C.length (C.map fun x=>D.flat (.int .i64 x))] (.sl false 1 (addC A s F (bh_ F 1 []) C).length ((addC A s F (bh_ F 1 []) C).map fun x=>D.flat (.int .i64 x))):=by
 have hsl:=(List.getElem?_eq_some_iff.1 hs).1
 have hn:=hok.hi
 have hrl:=hok.alpha.hi
 have hF:=ho.len
 rw [List.length_append] at hF
 have hfits:∀ x∈bh_ F 1 [],Fits A s x:=fun x hx=>c2_ (by omega) (by omega) (fun x hx=>ho.rng x (List.mem_append.2 (.inl hx))) 1 [] (by rw [Int.toNat_natCast,List.getD_eq_getElem?_getD,hs];rfl) (by simp) x hx
 have hstep:=fun l hl=>iy_ A hok s l (hfits l hl)
 have hlen:=ls_ hok hfits ho
 have hrp:=as_ hs
 have hhas:=fun (l:List Int) (h:l.length≤1000000) (v:Int)=>nm_ l h v
 have hhF:=fun v:Int=>nm_ F (by omega) v
 have hFp:=ad_ F
 have hFt:∀ (i:Nat) (x:Int),F[i]?=some x→partD false 1 (i*1) (F.map fun x=>D.flat (.int .i64 x))=some (.flat (.int .i64 x)):=fun i x h=>as_ h
 have h90:=OwnAt.of 90
 have hpI:=fun U:List Int=>ad_ U
 have hoI:=fun U:List Int=>b0_ U
 have hsn:=fun (j:Nat) (l:List Int) (h:(bh_ F 1 [])[j]?=some l)=>ii_ A s F C h
 generalize hLS:bh_ F 1 []=LS at*
 have q1:=ad_ A.r
 have q2:=ai_ A.f
 have q3:=al_ A.to
 rw [au_ A] at hstep ⊢
 generalize (A.r.map fun x=>D.flat (.int .i64 x))=LR at*
 generalize (A.f.map fun x=>D.flat (.bool x))=LB at*
 generalize ag_ A.to=LT at*
 have hrow:∀ j l,LS[j]?=some l→partD false 1 (j*1) (LS.map fun l:List Int=>D.sl true 1 l.length (l.map fun x=>D.flat (.int .i64 x)))=some (D.sl true 1 l.length (l.map fun x=>D.flat (.int .i64 x))):=fun j l h=>fe_ h
 have hpC:persL (C.map fun x=>D.flat (.int .i64 x))=true:=ad_ C
 have hCn:(C.map fun x=>D.flat (.int .i64 x))=((addC A s F (LS.take 0) C).map fun x=>D.flat (.int .i64 x)):=rfl
 have hCl:C.length=(addC A s F (LS.take 0) C).length:=rfl
 have hLS2:LS=F.map fun x=> [x]:=by
  rw [← hLS]
  show F.flatMap (fun s=> [[]++ [s]])=_
  rw [List.map_eq_flatMap];rfl
 have hLl:LS.length=F.length:=by rw [hLS2,List.length_map]
 have hLr:LS.map (fun l:List Int=>D.sl true 1 l.length (l.map fun x=>D.flat (.int .i64 x)))=F.map (fun x:Int=>D.sl true 1 1 [D.flat (.int .i64 x)]):=by rw [hLS2,List.map_map];rfl
 have hpr:∀ U:List Int,persL (U.map fun x:Int=>D.sl true 1 1 [D.flat (.int .i64 x)])=true:=fun U=>af_ (fun _=>rfl) U
 have hta:∀ (i:Nat) (x:Int),F[i]?=some x→(F.take i).map (fun x:Int=>D.sl true 1 1 [D.flat (.int .i64 x)])++ [D.sl true 1 1 [.flat (.int .i64 x)]]=(F.take (i+1)).map (fun x:Int=>D.sl true 1 1 [D.flat (.int .i64 x)]):=fun i x h=>by rw [List.take_add_one,h];simp
 generalize (F.map fun x=>D.flat (.int .i64 x))=FL at*
 refine DFun.enterA Try.func101 Try.ntmps101 ?_
 refine DW.walkTo 2 ?_
 refine DW.adopt 9 71 22 1 rfl rfl ?_
 refine DW.walk ?_
 refine DW.loopA (fun i:Nat=>⟨[(1,.flat (.int .i64 ((s:Nat):Int))),(2,.sl false 1 F.length FL),(3,.sl false 1 C.length (C.map fun x=>D.flat (.int .i64 x))),(4,.ref 4 0),(9,.own 71 i),(10,.flat (.int .i64 ((i:Nat):Int)))],[(4,some (.box [.sl false 1 A.r.length LR,.sl false 1 A.f.length LB,.sl false 1 A.to.length LT])),(71,some (.row 22 1 i ((F.take i).map fun x:Int=>D.sl true 1 1 [D.flat (.int .i64 x)])))]⟩) (fun i=>i≤F.length) (fun i=>F.length - i) 0 ?_ (Nat.zero_le _)
 intro i hi
 rcases Nat.lt_or_ge i F.length with hlt|hge
 ·obtain⟨x,hx⟩:∃ x,F[i]?=some x:=⟨_,List.getElem?_eq_getElem hlt⟩
  have hxp:=hFt i x hx
  have hxa:=hta i x hx
  have p0:=hpr (F.take i)
  have p1:=hpr (F.take (i+1))
  clear hrow hstep hsn hlen hhas hhF hpI hoI hfits hFt hta hpr
  generalize hX1:(F.take (i+1)).map (fun x:Int=>D.sl true 1 1 [D.flat (.int .i64 x)])=X1 at*
  generalize (F.take i).map (fun x:Int=>D.sl true 1 1 [D.flat (.int .i64 x)])=X0 at*
  generalize (C.map fun x=>D.flat (.int .i64 x))=CL at*
  refine DW.walk ?_
  rw [hxa]
  exact⟨i+1,by omega,by omega,by rw [hX1];exact Sub.auto⟩
 ·obtain  rfl:i=F.length:=by omega
  have p0:=hpr F
  rw [List.take_length,← hLr]
  rw [← hLr] at p0
  clear hta hpr hLr hLS2
  refine DW.walkTo 17 ?_
  refine DW.sub (s':=⟨[(1,.flat (.int .i64 ((s:Nat):Int))),(2,.sl false 1 F.length FL),(3,.sl false 1 C.length (C.map fun x=>D.flat (.int .i64 x))),(4,.ref 4 0),(9,.sl false 1 LS.length (LS.map fun l:List Int=>D.sl true 1 l.length (l.map fun x=>D.flat (.int .i64 x))))],[(4,some (.box [.sl false 1 A.r.length LR,.sl false 1 A.f.length LB,.sl false 1 A.to.length LT]))]⟩) (by rw [hLl];exact Sub.auto) ?_
  refine DW.walk ?_
  refine DW.loopA (fun j:Nat=>⟨[(1,.flat (.int .i64 ((s:Nat):Int))),(2,.sl false 1 F.length FL),(3,.sl false 1 (addC A s F (LS.take j) C).length ((addC A s F (LS.take j) C).map fun x=>D.flat (.int .i64 x))),(4,.ref 4 0),(9,.sl false 1 LS.length (LS.map fun l:List Int=>D.sl true 1 l.length (l.map fun x=>D.flat (.int .i64 x)))),(13,.flat (.int .i64 ((j:Nat):Int)))],[(4,some (.box [.sl false 1 A.r.length LR,.sl false 1 A.f.length LB,.sl false 1 A.to.length LT]))]⟩) (fun j=>j≤LS.length) (fun j=>LS.length - j) 0 ?_ (Nat.zero_le _)
  intro j hj
  rcases Nat.lt_or_ge j LS.length with hlt|hge
  ·obtain ⟨l,hl⟩:∃ l,LS[j]?=some l:=⟨_,List.getElem?_eq_getElem hlt⟩
   have hr:=hrow j l hl
   have hst:=hstep l (List.mem_of_getElem? hl)
   have hs1:=hsn j l hl
   have hl0:=hlen j
   have hf0:=hhF (atI A s l)
   have hc0:=hhas (addC A s F (LS.take j) C) (by omega) (atI A s l)
   have p0:=hpI (addC A s F (LS.take j) C)
   have p1:=hpI (addC A s F (LS.take (j+1)) C)
   have o0:=hoI (addC A s F (LS.take j) C)
   have mF:= @cw_ F (atI A s l)
   have mC:= @cw_ (addC A s F (LS.take j) C) (atI A s l)
   unfold m5_ at hs1
   generalize hC1:(addC A s F (LS.take (j+1)) C)=C1 at*
   generalize (addC A s F (LS.take j) C)=C0 at*
   generalize hasI F (atI A s l)=xF at*
   generalize hasI C0 (atI A s l)=xC at*
   by_cases h1:atI A s l∈F
   ·    have hx:=mF.2 h1
        rw [if_pos (.inl h1)] at hs1
        subst hs1
        clear hrow hstep hsn hlen hhas hhF hpI hoI hfits hFt
        refine DW.walk ?_
        exact⟨j+1,by omega,by omega,by rw [hC1];exact Sub.auto⟩
   ·    have hx:¬ 0≤xF:=fun h=>h1 (mF.1 h)
        by_cases h2:atI A s l∈C0
        ·have hx2:=mC.2 h2
         rw [if_pos (.inr h2)] at hs1
         subst hs1
         clear hrow hstep hsn hlen hhas hhF hpI hoI hfits hFt
         refine DW.walk ?_
         exact⟨j+1,by omega,by omega,by rw [hC1];exact Sub.auto⟩
        ·have hx2:¬ 0≤xC:=fun h=>h2 (mC.1 h)
         rw [if_neg (by rintro (h|h);exact h1 h;exact h2 h)] at hs1
         have hc1:(C0.map fun x=>D.flat (.int .i64 x))++ [.flat (.int .i64 (atI A s l))]=(C1.map fun x=>D.flat (.int .i64 x)):=by rw [hs1,List.map_append];rfl
         have hc2:C1.length=C0.length+1:=by rw [hs1,List.length_append];rfl
         generalize hX1:(C1.map fun x=>D.flat (.int .i64 x))=X1 at*
         generalize (C0.map fun x=>D.flat (.int .i64 x))=X0 at*
         clear hrow hstep hsn hlen hhas hhF hpI hoI hfits hFt
         refine DW.walk ?_
         try simp only [List.nil_append]
         rw [hc1]
         exact⟨j+1,by omega,by omega,by rw [hC1,hX1,hc2];exact Sub.auto⟩
  ·obtain rfl:j=LS.length:=by omega
   rw [List.take_length]
   have p0:=hpI (addC A s F LS C)
   generalize addC A s F LS C=C0 at*
   generalize (C0.map fun x=>D.flat (.int .i64 x))=X0 at*
   clear hrow hstep hsn hlen hhas hhF hpI hoI hfits hFt
   refine DW.walk ?_
   exact⟨.inr rfl,ResOk.one [] rfl rfl trivial (Vw.pers rfl)⟩
def rw2 (x y:Int):D:=D.sl true 1 2 [D.flat (.int .i64 x),D.flat (.int .i64 y)]
def rws (F:List Int) (i:Nat):List D:=(F.take i).flatMap fun x=>F.map fun y=>rw2 x y
def rwk (F:List Int) (i:Nat) (x:Int) (k:Nat):List D:=rws F i++(F.take k).map fun y=>rw2 x y
theorem uy_ (F:List Int) (i:Nat) (x:Int):rwk F i x 0=rws F i:=by simp [rwk]
theorem sw_ {F:List Int} {i:Nat} {x:Int} (h:F[i]?=some x):rwk F i x F.length=rws F (i+1):=by
 unfold rwk rws
 rw [List.take_length,List.take_add_one,h]
 simp
theorem vk_ {F:List Int} {i k:Nat} {x y:Int} (h:F[k]?=some y):rwk F i x k++ [D.sl true 1 2 [D.flat (.int .i64 x),D.flat (.int .i64 y)]]=rwk F i x (k+1):=by
 unfold rwk
 rw [List.take_add_one,h,List.append_assoc]
 simp [rw2]
theorem pe_ (F:List Int) (i:Nat):persL (rws F i)=true:=by
 have:∀ l:List Int,persL (l.flatMap fun x=>F.map fun y=>rw2 x y)=true:=fun l=>by
  induction l with
  |nil=>rfl
  |cons x xs ih=>rw [List.flatMap_cons];exact bv_ (af_ (fun _=>rfl) _) ih
 exact this _
theorem v9_ (F:List Int) (i:Nat) (x:Int) (k:Nat):persL (rwk F i x k)=true:=bv_ (pe_ F i) (af_ (fun _=>rfl) _)
theorem zi_ (F:List Int):(bh_ F 2 []).map (fun l:List Int=>D.sl true 1 l.length (l.map fun x=>D.flat (.int .i64 x)))=rws F F.length:=by
 unfold rws
 rw [List.take_length]
 show (F.flatMap fun s=>F.flatMap fun u=> [[s,u]]).map (fun l:List Int=>D.sl true 1 l.length (l.map fun x=>D.flat (.int .i64 x)))=_
 rw [List.map_flatMap]
 congr 1
 funext x
 rw [List.map_flatMap,List.map_eq_flatMap]
 rfl
theorem zc_ (F:List Int):∀ i,i≤F.length→(rws F i).length=i*F.length:=by
 intro i hi
 induction i with
 |zero=>simp [rws]
 |succ i ih=>
  obtain⟨x,hx⟩:∃ x,F[i]?=some x:=⟨_,List.getElem?_eq_getElem hi⟩
  have h1:=ih (by omega)
  rw [← sw_ hx]
  unfold rwk
  rw [List.length_append,h1,List.take_length,List.length_map,Nat.succ_mul]
theorem vc_ (A:Au) (hok:AuOk A) (s:Nat) (hs:A.r[s]?=some (2:Int)) (F C:List Int) (ho:OutOk A (F++C)):DFun Try.prog 101 [auD A,.flat (.int .i64 ((s:Nat):Int)),.sl false 1 F.length (F.map fun x=>D.flat (.int .i64 x)),.sl false 1 C.length (C.map fun x=>D.flat (.int .i64 x))] (.sl false 1 (addC A s F (bh_ F 2 []) C).length ((addC A s F (bh_ F 2 []) C).map fun x=>D.flat (.int .i64 x))):=by
 have hsl:=(List.getElem?_eq_some_iff.1 hs).1
 have hn:=hok.hi
 have hrl:=hok.alpha.hi
 have hF:=ho.len
 rw [List.length_append] at hF
 have hfits:∀ x∈bh_ F 2 [],Fits A s x:=fun x hx=>c2_ (by omega) (by omega) (fun x hx=>ho.rng x (List.mem_append.2 (.inl hx))) 2 [] (by rw [Int.toNat_natCast,List.getD_eq_getElem?_getD,hs];rfl) (by simp) x hx
 have hstep:=fun l hl=>iy_ A hok s l (hfits l hl)
 have hlen:=ls_ hok hfits ho
 have hrp:=as_ hs
 have hhas:=fun (l:List Int) (h:l.length≤1000000) (v:Int)=>nm_ l h v
 have hhF:=fun v:Int=>nm_ F (by omega) v
 have hFp:=ad_ F
 have hFt:∀ (i:Nat) (x:Int),F[i]?=some x→partD false 1 (i*1) (F.map fun x=>D.flat (.int .i64 x))=some (.flat (.int .i64 x)):=fun i x h=>as_ h
 have h90:=OwnAt.of 90
 have hpI:=fun U:List Int=>ad_ U
 have hoI:=fun U:List Int=>b0_ U
 have hsn:=fun (j:Nat) (l:List Int) (h:(bh_ F 2 [])[j]?=some l)=>ii_ A s F C h
 generalize hLS:bh_ F 2 []=LS at*
 have q1:=ad_ A.r
 have q2:=ai_ A.f
 have q3:=al_ A.to
 rw [au_ A] at hstep ⊢
 generalize (A.r.map fun x=>D.flat (.int .i64 x))=LR at*
 generalize (A.f.map fun x=>D.flat (.bool x))=LB at*
 generalize ag_ A.to=LT at*
 have hrow:∀ j l,LS[j]?=some l→partD false 1 (j*1) (LS.map fun l:List Int=>D.sl true 1 l.length (l.map fun x=>D.flat (.int .i64 x)))=some (D.sl true 1 l.length (l.map fun x=>D.flat (.int .i64 x))):=fun j l h=>fe_ h
 have hpC:persL (C.map fun x=>D.flat (.int .i64 x))=true:=ad_ C
 have hCn:(C.map fun x=>D.flat (.int .i64 x))=((addC A s F (LS.take 0) C).map fun x=>D.flat (.int .i64 x)):=rfl
 have hCl:C.length=(addC A s F (LS.take 0) C).length:=rfl
 have hLr:LS.map (fun l:List Int=>D.sl true 1 l.length (l.map fun x=>D.flat (.int .i64 x)))=rws F F.length:=by rw [← hLS];exact zi_ F
 have hLl:LS.length=F.length*F.length:=by rw [← zc_ F F.length (Nat.le_refl _),← hLr,List.length_map]
 have hpr:=pe_ F
 have hpk:=v9_ F
 have hz:=uy_ F
 have hal:=fun i x h=> @sw_ F i x h
 have hsk:=fun i k x y h=> @vk_ F i k x y h
 have hmul:∀ i,i≤F.length→i*F.length≤262144:=fun i hi=>Nat.le_trans (Nat.mul_le_mul hi (Nat.le_refl _)) (Nat.mul_le_mul (show F.length≤512 by omega) (show F.length≤512 by omega))
 generalize (F.map fun x=>D.flat (.int .i64 x))=FL at*
 refine DFun.enterA Try.func101 Try.ntmps101 ?_
 refine DW.walkTo 2 ?_
 refine DW.adopt 9 71 22 1 rfl rfl ?_
 refine DW.walk ?_
 refine DW.loopA (fun i:Nat=>⟨[(1,.flat (.int .i64 ((s:Nat):Int))),(2,.sl false 1 F.length FL),(3,.sl false 1 C.length (C.map fun x=>D.flat (.int .i64 x))),(4,.ref 4 0),(9,.own 71 (i*F.length)),(11,.flat (.int .i64 ((i:Nat):Int)))],[(4,some (.box [.sl false 1 A.r.length LR,.sl false 1 A.f.length LB,.sl false 1 A.to.length LT])),(71,some (.row 22 1 (i*F.length) (rws F i)))]⟩) (fun i=>i≤F.length) (fun i=>F.length - i) 0 ?_ (Nat.zero_le _) (by
  rw [Nat.zero_mul]
  exact Sub.auto)
 intro i hi
 rcases Nat.lt_or_ge i F.length with hlt|hge
 ·obtain⟨x,hx⟩:∃ x,F[i]?=some x:=⟨_,List.getElem?_eq_getElem hlt⟩
  have hxp:=hFt i x hx
  have hz0:=hz i x
  have hal0:=hal i x hx
  have hm0:=hmul i (by omega)
  refine DW.walk ?_
  refine DW.loopA (fun k:Nat=>⟨[(1,.flat (.int .i64 ((s:Nat):Int))),(2,.sl false 1 F.length FL),(3,.sl false 1 C.length (C.map fun x=>D.flat (.int .i64 x))),(4,.ref 4 0),(9,.own 71 (i*F.length+k)),(11,.flat (.int .i64 ((i:Nat):Int))),(12,.flat (.int .i64 ((k:Nat):Int)))],[(4,some (.box [.sl false 1 A.r.length LR,.sl false 1 A.f.length LB,.sl false 1 A.to.length LT])),(71,some (.row 22 1 (i*F.length+k) (rwk F i x k)))]⟩) (fun k=>k≤F.length) (fun k=>F.length - k) 0 ?_ (Nat.zero_le _) (by
   rw [hz0,Nat.add_zero]
   have p0:=hpr i
   generalize rws F i=X0 at*
   exact Sub.auto)
  intro k hk
  rcases Nat.lt_or_ge k F.length with hltk|hgek
  ·obtain⟨y,hy⟩:∃ y,F[k]?=some y:=⟨_,List.getElem?_eq_getElem hltk⟩
   have hyp:=hFt k y hy
   have hs2:=hsk i k x y hy
   have p0:=hpk i x k
   have p1:=hpk i x (k+1)
   clear hrow hstep hsn hlen hhas hhF hpI hoI hfits hFt hpr hpk hz hal hsk hmul hz0 hal0
   generalize i*F.length=iF at*
   generalize hX1:rwk F i x (k+1)=X1 at*
   generalize rwk F i x k=X0 at*
   generalize (C.map fun x=>D.flat (.int .i64 x))=CL at*
   refine DW.walk ?_
   rw [hs2]
   exact⟨k+1,by omega,by omega,by rw [hX1];exact Sub.auto⟩
  ·obtain rfl:k=F.length:=by omega
   have hi1:i*F.length+F.length=(i+1)*F.length:=by rw [Nat.succ_mul]
   rw [hal0,hi1]
   have p1:=hpr (i+1)
   clear hrow hstep hsn hlen hhas hhF hpI hoI hfits hFt hpr hpk hz hal hsk hmul hz0 hal0
   generalize hI:(i+1)*F.length=iF at*
   generalize hX1:rws F (i+1)=X1 at*
   generalize (C.map fun x=>D.flat (.int .i64 x))=CL at*
   refine DW.walk ?_
   exact⟨i+1,by omega,by omega,by rw [hX1,hI];exact Sub.auto⟩
 ·obtain  rfl:i=F.length:=by omega
  have p0:=hpr F.length
  have hLm:LS.length≤262144:=by rw [hLl];exact hmul F.length (Nat.le_refl _)
  rw [← hLl,← hLr]
  clear hLl
  rw [← hLr] at p0
  clear hpr hpk hz hal hsk hmul
  refine DW.walkTo 17 ?_
  refine DW.sub (s':=⟨[(1,.flat (.int .i64 ((s:Nat):Int))),(2,.sl false 1 F.length FL),(3,.sl false 1 C.length (C.map fun x=>D.flat (.int .i64 x))),(4,.ref 4 0),(9,.sl false 1 LS.length (LS.map fun l:List Int=>D.sl true 1 l.length (l.map fun x=>D.flat (.int .i64 x))))],[(4,some (.box [.sl false 1 A.r.length LR,.sl false 1 A.f.length LB,.sl false 1 A.to.length LT]))]⟩) Sub.auto ?_
  refine DW.walk ?_
  refine DW.loopA (fun j:Nat=>⟨[(1,.flat (.int .i64 ((s:Nat):Int))),(2,.sl false 1 F.length FL),(3,.sl false 1 (addC A s F (LS.take j) C).length ((addC A s F (LS.take j) C).map fun x=>D.flat (.int .i64 x))),(4,.ref 4 0),(9,.sl false 1 LS.length (LS.map fun l:List Int=>D.sl true 1 l.length (l.map fun x=>D.flat (.int .i64 x)))),(13,.flat (.int .i64 ((j:Nat):Int)))],[(4,some (.box [.sl false 1 A.r.length LR,.sl false 1 A.f.length LB,.sl false 1 A.to.length LT]))]⟩) (fun j=>j≤LS.length) (fun j=>LS.length - j) 0 ?_ (Nat.zero_le _)
  intro j hj
  rcases Nat.lt_or_ge j LS.length with hlt|hge
  ·obtain ⟨l,hl⟩:∃ l,LS[j]?=some l:=⟨_,List.getElem?_eq_getElem hlt⟩
   have hr:=hrow j l hl
   have hst:=hstep l (List.mem_of_getElem? hl)
   have hs1:=hsn j l hl
   have hl0:=hlen j
   have hf0:=hhF (atI A s l)
   have hc0:=hhas (addC A s F (LS.take j) C) (by omega) (atI A s l)
   have p0:=hpI (addC A s F (LS.take j) C)
   have p1:=hpI (addC A s F (LS.take (j+1)) C)
   have o0:=hoI (addC A s F (LS.take j) C)
   have mF:= @cw_ F (atI A s l)
   have mC:= @cw_ (addC A s F (LS.take j) C) (atI A s l)
   unfold m5_ at hs1
   generalize hC1:(addC A s F (LS.take (j+1)) C)=C1 at*
   generalize (addC A s F (LS.take j) C)=C0 at*
   generalize hasI F (atI A s l)=xF at*
   generalize hasI C0 (atI A s l)=xC at*
   by_cases h1:atI A s l∈F
   ·    have hx:=mF.2 h1
        rw [if_pos (.inl h1)] at hs1
        subst hs1
        clear hrow hstep hsn hlen hhas hhF hpI hoI hfits hFt
        refine DW.walk ?_
        exact⟨j+1,by omega,by omega,by rw [hC1];exact Sub.auto⟩
   ·    have hx:¬ 0≤xF:=fun h=>h1 (mF.1 h)
        by_cases h2:atI A s l∈C0
        ·have hx2:=mC.2 h2
         rw [if_pos (.inr h2)] at hs1
         subst hs1
         clear hrow hstep hsn hlen hhas hhF hpI hoI hfits hFt
         refine DW.walk ?_
         exact⟨j+1,by omega,by omega,by rw [hC1];exact Sub.auto⟩
        ·have hx2:¬ 0≤xC:=fun h=>h2 (mC.1 h)
         rw [if_neg (by rintro (h|h);exact h1 h;exact h2 h)] at hs1
         have hc1:(C0.map fun x=>D.flat (.int .i64 x))++ [.flat (.int .i64 (atI A s l))]=(C1.map fun x=>D.flat (.int .i64 x)):=by rw [hs1,List.map_append];rfl
         have hc2:C1.length=C0.length+1:=by rw [hs1,List.length_append];rfl
         generalize hX1:(C1.map fun x=>D.flat (.int .i64 x))=X1 at*
         generalize (C0.map fun x=>D.flat (.int .i64 x))=X0 at*
         clear hrow hstep hsn hlen hhas hhF hpI hoI hfits hFt
         refine DW.walk ?_
         try simp only [List.nil_append]
         rw [hc1]
         exact⟨j+1,by omega,by omega,by rw [hC1,hX1,hc2];exact Sub.auto⟩
  ·obtain rfl:j=LS.length:=by omega
   rw [List.take_length]
   have p0:=hpI (addC A s F LS C)
   generalize addC A s F LS C=C0 at*
   generalize (C0.map fun x=>D.flat (.int .i64 x))=X0 at*
   clear hrow hstep hsn hlen hhas hhF hpI hoI hfits hFt
   refine DW.walk ?_
   exact⟨.inr rfl,ResOk.one [] rfl rfl trivial (Vw.pers rfl)⟩
def f0_ (A:Au) (F:List Int):Nat→List Int
 |0=> []
 |j+1=>addC A j F (bh_ F (A.r.getD j 0).toNat []) (f0_ A F j)
theorem ew_ (A:Au) (F:List Int):∀ j,F++f0_ A F j=bi_ A F F j
 |0=>List.append_nil _
 |j+1=>by
  rw [bo_,← ew_ A F j]
  exact ln_ A j F _ _
theorem y5_ (A:Au) (hok:AuOk A) (s:Nat) (hs:s<A.r.length) (F C:List Int) (ho:OutOk A (F++C)):DFun Try.prog 101 [auD A,.flat (.int .i64 ((s:Nat):Int)),.sl false 1 F.length (F.map fun x=>D.flat (.int .i64 x)),.sl false 1 C.length (C.map fun x=>D.flat (.int .i64 x))] (.sl false 1 (addC A s F (bh_ F (A.r.getD s 0).toNat []) C).length ((addC A s F (bh_ F (A.r.getD s 0).toNat []) C).map fun x=>D.flat (.int .i64 x))):=by
 obtain⟨r1,r2,r3⟩:=de_ hok hs
 generalize (A.r.getD s 0).toNat=k at*
 rcases (show k=0∨k=1∨k=2 by omega) with rfl|rfl|rfl
 ·exact t9_ A hok s r1 F C ho
 ·exact wa_ A hok s r1 F C ho
 ·exact vc_ A hok s r1 F C ho
theorem ir_ (A:Au) (hok:AuOk A):DFun Try.prog 60 [auD A] (.sl false 1 (ac_ A).length ((ac_ A).map fun x=>D.flat (.int .i64 x))):=by
 have hn:=hok.hi
 have hrl:=hok.alpha.hi
 have hend:=fun (k:Nat) h1 h2=> @kr_ A hok k h1 h2
 have hko:=bn_ hok
 have hrd:=fun (k j:Nat) (hj:j<A.r.length)=>y5_ A hok j hj (ar_ A k) (f0_ A (ar_ A k) j) (by rw [ew_];exact eq_ hok (hko k).rng (hko k) j (by omega))
 have hcr:=fun k=>ew_ A (ar_ A k) A.r.length
 have hcl:∀ k j,j≤A.r.length→(f0_ A (ar_ A k) j).length≤512:=fun k j hj=>by
  have h1:=eq_ hok (hko k).rng (hko k) j hj
  rw [← ew_] at h1
  have h2:=h1.len
  rw [List.length_append] at h2
  omega
 have hpI:=fun U:List Int=>ad_ U
 have hoI:=fun U:List Int=>b0_ U
 have h21:=OwnAt.of 21
 have q1:=ad_ A.r
 have q2:=ai_ A.f
 have q3:=al_ A.to
 have hc0:∀ k,f0_ A (ar_ A k) 0=[]:=fun k=>rfl
 rw [au_ A] at hrd ⊢
 generalize (A.r.map fun x=>D.flat (.int .i64 x))=LR at*
 generalize (A.f.map fun x=>D.flat (.bool x))=LB at*
 generalize ag_ A.to=LT at*
 refine DFun.enterA Try.func60 Try.ntmps60 ?_
 refine DW.walk ?_
 refine DW.loopA (fun k:Nat=>⟨[(1,.ref 1 0),(3,.sl false 1 (ar_ A k).length ((ar_ A k).map fun x=>D.flat (.int .i64 x)))],[(1,some (.box [.sl false 1 A.r.length LR,.sl false 1 A.f.length LB,.sl false 1 A.to.length LT]))]⟩) (fun k=> ∀ j<k,(ar_ A j).length<(ar_ A (j+1)).length) (fun k=>A.f.length - (ar_ A k).length) 0 ?_ (by omega)
 intro k hk
 have hlk:=(hko k).len
 have hlk1:=(hko (k+1)).len
 have hr1:=hrd k
 have hc1:=hcl k
 have hc2:=hcr k
 have hc3:=hc0 k
 have hen:=hend k hk
 have hF1:bi_ A (ar_ A k) (ar_ A k) A.r.length=(ar_ A (k+1)):=rfl
 rw [hF1] at hc2
 have hk1:(ar_ A k).length<(ar_ A (k+1)).length→ ∀ j<k+1,(ar_ A j).length<(ar_ A (j+1)).length:=fun h j hj=>by
  by_cases q:j=k
  ·subst q;exact h
  ·exact hk j (by omega)
 have hpre:(ar_ A k).length≤(ar_ A (k+1)).length:=(he_ A (ar_ A k)).length_le
 clear hrd hcl hcr hend hko hk hc0
 generalize hX1:(ar_ A (k+1))=F1 at*
 generalize (ar_ A k)=F at*
 have pF:=hpI F
 have oF:=hoI F
 refine DW.walk ?_
 refine DW.loopA (fun j:Nat=>⟨[(1,.ref 1 0),(3,.sl false 1 F.length (F.map fun x=>D.flat (.int .i64 x))),(4,.flat (.int .i64 ((F.length:Nat):Int))),(5,.sl false 1 (f0_ A F j).length ((f0_ A F j).map fun x=>D.flat (.int .i64 x))),(6,.flat (.int .i64 ((j:Nat):Int)))],[(1,some (.box [.sl false 1 A.r.length LR,.sl false 1 A.f.length LB,.sl false 1 A.to.length LT]))]⟩) (fun j=>j≤A.r.length) (fun j=>A.r.length - j) 0 ?_ (Nat.zero_le _) (by rw [hc3];exact Sub.auto)
 intro j hj
 rcases Nat.lt_or_ge j A.r.length with hlt|hge
 ·have hr:=hr1 j hlt
  have hl0:=hc1 j hj
  have p0:=hpI (f0_ A F j)
  have p1:=hpI (f0_ A F (j+1))
  rw [show addC A ((j:Nat):Int) F (bh_ F (A.r.getD j 0).toNat []) (f0_ A F j)=f0_ A F (j+1) from rfl] at hr
  generalize hC1:f0_ A F (j+1)=C1 at*
  generalize f0_ A F j=C0 at*
  clear hr1 hc1 hpI hoI hen hk1
  refine DW.walk ?_
  exact⟨j+1,by omega,by omega,by rw [hC1];exact Sub.auto⟩
 ·obtain rfl:j=A.r.length:=by omega
  have hl0:=hc1 _ (Nat.le_refl _)
  have p0:=hpI (f0_ A F A.r.length)
  have o0:=hoI (f0_ A F A.r.length)
  generalize f0_ A F A.r.length=C0 at*
  have pF1:=hpI F1
  have hl1:F1.length=F.length+C0.length:=by rw [← hc2,List.length_append]
  have hm1:(F.map fun x=>D.flat (.int .i64 x))++(C0.map fun x=>D.flat (.int .i64 x))=(F1.map fun x=>D.flat (.int .i64 x)):=by rw [← hc2,List.map_append]
  clear hr1 hc1 hpI hoI hc2 hc3
  by_cases hg:F.length<F1.length
  ·have hk2:=hk1 hg
   have hC:¬ C0.length=0:=by omega
   clear hen hk1
   generalize hY:(F1.map fun x=>D.flat (.int .i64 x))=Y1 at*
   generalize (F.map fun x=>D.flat (.int .i64 x))=Y0 at*
   generalize (C0.map fun x=>D.flat (.int .i64 x))=Z0 at*
   refine DW.walkTo 9 ?_
   try simp only [List.nil_append]
   rw [hm1]
   refine DW.walk ?_
   exact⟨k+1,hk2,by rw [hX1];omega,by rw [hX1,hY,hl1];exact Sub.auto⟩
  ·have hC:C0.length=0:=by omega
   have hfa:=hen (by omega)
   rw [← hfa]
   clear hen hk1 hfa
   rw [show F1.length=0+F.length+C0.length by omega]
   generalize hY:(F1.map fun x=>D.flat (.int .i64 x))=Y1 at*
   generalize (F.map fun x=>D.flat (.int .i64 x))=Y0 at*
   generalize (C0.map fun x=>D.flat (.int .i64 x))=Z0 at*
   refine DW.walkTo 9 ?_
   try simp only [List.nil_append]
   rw [hm1]
   refine DW.walk ?_
   exact⟨.inr rfl,ResOk.one [(21,some (.row 3 1 (0+F.length+C0.length) Y1))] rfl rfl ⟨rfl,trivial⟩ (Vw.own (.head _) (VwL.pers pF1))⟩
theorem fi_ (l:List Bool) {i:Nat} (h:i<l.length):partD false 1 (i*1) (l.map fun x=>D.flat (.bool x))=some (.flat (.bool (l.getD i false))):=dy_ (by rw [List.getD_eq_getElem?_getD,List.getElem?_eq_getElem h];rfl)
theorem ae7 {n p:Nat} (h:p<n):digs n 1 p=[((p:Nat):Int)]:=by
 show []++ [((p % n:Nat):Int)]=_
 rw [Nat.mod_eq_of_lt h];rfl
theorem ael {n p:Nat} (h:p<n ^ 2):digs n 2 p=[((p / n:Nat):Int),((p % n:Nat):Int)]:=by
 have h1:p / n<n:=Nat.div_lt_of_lt_mul (by rw [← Nat.pow_two];exact h)
 show []++ [((p / n % n:Nat):Int)]++ [((p % n:Nat):Int)]=_
 rw [Nat.mod_eq_of_lt h1];rfl
theorem rw_ (rs:List Int) (LB GT:List D) (n t i:Nat) (m:Nat) (hk:rs[i]?=some ((m:Nat):Int)) (hk2:m≤2) (hn:n≤512) (hLB:persL LB=true) (hGT:persL GT=true) (hrl:rs.length≤4096) (ht:t≤4096):
  DLend Try.prog 50 [.agg [.sl false 1 rs.length (rs.map fun x=>D.flat (.int .i64 x)),.sl false 1 n LB,.own 419430400005 t],.flat (.int .i64 ((i:Nat):Int))] [(419430400005,some (.row 22 1 t GT))] [(419430400005,some (.row 22 1 t GT))] (.flat (.int .i64 (((ba_ ((m:Nat):Int) n):Nat):Int))):=by
 have hil:=(List.getElem?_eq_some_iff.1 hk).1
 have hp:=as_ hk
 have hLR:=ad_ rs
 have hw:ba_ (m:Int) n=n ^ m:=by unfold ba_;rw [Int.toNat_natCast]
 rw [hw]
 generalize (rs.map fun x=>D.flat (.int .i64 x))=LR at*
 generalize rs.length=rl at*
 clear hw hk
 rcases (show m=0∨m=1∨m=2 by omega) with rfl|rfl|rfl
 ·rw [Nat.pow_zero]
  refine DLend.enterA Try.func50 Try.ntmps50 ?_
  refine DW.walk ?_
  exact⟨.inr rfl,ResL.oneA⟩
 ·rw [Nat.pow_one]
  refine DLend.enterA Try.func50 Try.ntmps50 ?_
  refine DW.walk ?_
  exact⟨.inr rfl,ResL.oneA⟩
 ·have hm:IntKind.i64.wrap ((n:Int)*(n:Int))=((n ^ 2:Nat):Int):=by
   rw [Nat.pow_two,Int.natCast_mul,IntKind.wrap_i64]
   have h1:n*n≤512*512:=Nat.mul_le_mul hn hn
   rw [← Int.natCast_mul]
   omega
  generalize n ^ 2=q at*
  refine DLend.enterA Try.func50 Try.ntmps50 ?_
  refine DW.walk ?_
  exact⟨.inr rfl,ResL.oneA⟩
instance:TyAr Try.prog 118 4 4:=⟨Try.underlying118⟩
instance:TyI Try.prog 118 true 4:=⟨by kernel_rfl,by kernel_rfl⟩
end Go.Proofs.Ytichhfbkhnimmaa
