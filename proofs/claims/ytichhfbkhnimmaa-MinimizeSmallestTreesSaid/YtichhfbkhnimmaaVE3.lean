/- The classes of states. No condition. -/
import Derived.Test.YtichhfbkhnimmaaVPG
set_option linter.unusedSimpArgs false
set_option linter.unusedVariables false
set_option maxHeartbeats 4000000
set_option maxRecDepth 8000
namespace Go.Proofs.Ytichhfbkhnimmaa
open Go Go.RowKit Go.PP Go.Dm Go.Rt Go.Mn
def unU (n s:Nat):List Int:=(List.range n).map fun (a:Nat)=>if a<s then 0 else (a:Int)
theorem f3_ (n s:Nat):(unU n s).length=n:=by simp [unU]
theorem es_ {n s a:Nat} (h:a<n):(unU n s)[a]?=some (if a<s then 0 else (a:Int)):=by simp [unU,h]
theorem un_ (n:Nat):unU n 0=idU n:=by simp [unU,idU]
theorem w9_ (n:Nat):unU n n=fn_ n:=by
 refine List.ext_getElem? fun a=>?_
 unfold fn_
 by_cases h:a<n
 ·rw [es_ h,if_pos h,List.getElem?_replicate,if_pos h]
 ·rw [List.getElem?_eq_none (by rw [f3_];omega),List.getElem?_eq_none (by simp;omega)]
theorem up_ (n s:Nat):Flat (unU n s):=⟨fun a x h=>by
 have ha:a<n:=by have:=(List.getElem?_eq_some_iff.1 h).1;rwa [f3_] at this
 rw [es_ ha] at h
 by_cases hs:a<s
 ·rw [if_pos hs] at h
  exact⟨0,(Option.some.inj h).symm,Nat.zero_le _,by rw [es_ (by omega),if_pos (by omega)];rfl⟩
 ·rw [if_neg hs] at h
  exact⟨a,(Option.some.inj h).symm,Nat.le_refl _,by rw [es_ ha,if_neg hs]⟩⟩
theorem vg_ {n s:Nat} (h:s<n):(unU n s).set s 0=unU n (s+1):=by
 refine List.ext_getElem? fun a=>?_
 rw [List.getElem?_set,f3_]
 by_cases hs:s=a
 ·subst hs
  rw [if_pos rfl,if_pos h,es_ h,if_pos (by omega)]
 ·rw [if_neg hs]
  by_cases ha:a<n
  ·rw [es_ ha,es_ ha]
   by_cases h1:a<s
   ·rw [if_pos h1,if_pos (by omega)]
   ·rw [if_neg h1,if_neg (by omega)]
  ·rw [List.getElem?_eq_none (by rw [f3_];omega),List.getElem?_eq_none (by rw [f3_];omega)]
theorem rc_ {f:Nat→Int} {n j:Nat} (h:j<n) (h0:f j=0):az_ f n (j+1)=az_ f n j:=by
 rw [← j1_ h,h0]
 refine List.ext_getElem? fun a=>?_
 rw [List.getElem?_set]
 by_cases e:j=a
 ·subst e
  rw [if_pos rfl,do_ (by omega),if_pos h]
  unfold az_
  rw [List.getElem?_append_right (by simp),List.getElem?_replicate,if_pos (by simp;omega)]
 ·rw [if_neg e]
theorem rm_ (l:List Sp):(spC l).length=l.length*3:=by
 induction l with
 |nil=>rfl
 |cons a l ih=>
  unfold spC at*
  rw [List.flatMap_cons,List.length_append,ih,List.length_cons]
  simp only [List.length_cons,List.length_nil]
  omega
theorem ld_ (a:Sp) (l:List Sp):spC (a::l)=[.flat (.int .i64 a.sym),.flat (.int .i64 a.at_),.flat (.int .i64 a.other)]++spC l:=by simp [spC]
theorem ou_:∀ {l:List Sp} {j:Nat} {s:Sp},l[j]?=some s→((spC l).drop (j*3)).take 3=[.flat (.int .i64 s.sym),.flat (.int .i64 s.at_),.flat (.int .i64 s.other)]
 | [],j,s,h=>by simp at h
 |a::l,0,s,h=>by
  simp at h;subst h
  rw [ld_];rfl
 |a::l,j+1,s,h=>by
  rw [ld_,List.drop_append,List.drop_eq_nil_of_le (by simp only [List.length_cons,List.length_nil];omega),List.nil_append,show (j+1)*3 - [D.flat (.int .i64 a.sym),D.flat (.int .i64 a.at_),D.flat (.int .i64 a.other)].length=j*3 by simp only [List.length_cons,List.length_nil];omega]
  exact ou_ (by simpa using h)
theorem r6_ {l:List Sp} {j:Nat} {s:Sp} (h:l[j]?=some s):partD true 3 (j*3) (spC l)=some (.agg [.flat (.int .i64 s.sym),.flat (.int .i64 s.at_),.flat (.int .i64 s.other)]):=by
 have hi:=(List.getElem?_eq_some_iff.1 h).1
 unfold partD
 rw [if_pos rfl,if_pos (by rw [rm_];omega),ou_ h]
noncomputable def vU (A:Au) (k j:Nat):List Int:=ev_ A (rndU A k) ((ag_ A).take j)
theorem w5_ (A:Au) (k:Nat):vU A k 0=rndU A k:=rfl
theorem abd (A:Au) (k:Nat):vU A k (ag_ A).length=rndU A (k+1):=by unfold vU;rw [List.take_length];rfl
theorem xs_ {A:Au} {k j:Nat} {s:Sp} (h:(ag_ A)[j]?=some s):vU A k (j+1)=da_ (vU A k j) (b2_ A (vU A k j) s):=by
 unfold vU
 rw [List.take_add_one,h]
 exact n2_ ..
theorem tl_ {A:Au} (hok:AuOk A) (k j:Nat):Way A (vU A k j):=(ey_ hok _ (fun s h=>List.mem_of_mem_take h) _ (f5_ hok k)).1
theorem qi_ (A:Au) (U:List Int) (s:Sp):(b2_ A U s).length=A.f.length:=by simp [b2_]
theorem s9_ {A:Au} (hok:AuOk A) {U:List Int} (hw:Way A U) {s:Sp} (hs:SpOk A s) {a:Nat} (ha:a<A.f.length):0≤(b2_ A U s).getD a 0∧(b2_ A U s).getD a 0≤1000:=by
 rw [ea_ ha]
 obtain⟨a0,a1⟩:=db_ hok hs (p:=(a:Int)) ⟨by omega,by omega⟩
 obtain⟨m,e1,e2,e3⟩:=hr_ hw.flat (p:=(au_ A s (a:Int)).toNat) (by rw [hw.len];omega)
 have:=hok.hi
 omega
theorem wv_ {U M:List Int} {n:Nat} (hU:U.length=n) (hf:Flat U) (hn:n≤512) (hM:∀ a,a<n→0≤M.getD a 0∧M.getD a 0≤1000):KBd (fun b=>(U.getD b 0,M.getD b 0)) n:=
 ⟨fun a ha=>by
  obtain⟨m,e1,e2,e3⟩:=hr_ hf (p:=a) (by omega)
  show -1000000000≤U.getD a 0∧U.getD a 0≤1000000000
  omega,fun a ha=>by
  have:=hM a ha
  show -1000000000≤M.getD a 0∧M.getD a 0≤1000000000
  omega⟩
theorem wk_ {A:Au} (hok:AuOk A):∃ k,nbU (rndU A (k+1))=nbU (rndU A k)∧ ∀ i,i<k→nbU (rndU A i)<nbU (rndU A (i+1)):=by
 have hle:∀ k,nbU (rndU A k)≤A.f.length:=fun k=>by have:=wu_ (rndU A k);rw [(f5_ hok k).len] at this;exact this
 have hex:∃ k,nbU (rndU A (k+1))=nbU (rndU A k):=by
  refine Classical.byContradiction fun hn=>?_
  have   hgr:∀ k,k≤nbU (rndU A k):=fun k=>by
   induction k with
   |zero=>exact Nat.zero_le _
   |    succ k ih=>
        have h1:=wy_ hok k
        have h2:nbU (rndU A (k+1))≠nbU (rndU A k):=fun h=>hn ⟨k,h⟩
        omega
  have h1:=hgr (A.f.length+1)
  have h2:=hle (A.f.length+1)
  omega
 obtain⟨k,h1,h2⟩:=dz_ hex
 exact⟨k,h1,fun i hi=>by have h3:=wy_ hok i;have h4:=h2 i hi;omega⟩
theorem mm_ (A:Au) (hk:chk A=0):
  DLend Try.prog 48 [auD A] [(225626701274425600001,none),(225626701274425600002,none)] [(225626701274425600001,some (.box [.own 225626701274425600002 A.f.length])),(225626701274425600002,some (.row 3 1 A.f.length ((clsU A).map fun x=>D.flat (.int .i64 x))))] (.ref 225626701274425600001 0):=by
 have hok:=a6_ hk
 obtain⟨K,hK,hKl⟩:=wk_ hok
 obtain⟨hc1,hc2⟩:=xc_ hok (k:=K) (by omega)
 rw [← hc2]
 have hnew:=ace A.f.length (by have:=hok.hi;omega)
 have hun:∀ s:Nat,s<A.f.length→DLend Try.prog 93 [.ref 225626701274425600001 0,.flat (.int .i64 0),.flat (.int .i64 ((s:Nat):Int))] [(225626701274425600001,some (.box [.own 225626701274425600002 A.f.length])),(225626701274425600002,some (.row 3 1 A.f.length ((unU A.f.length s).map fun x=>D.flat (.int .i64 x))))] [(225626701274425600001,some (.box [.own 225626701274425600002 A.f.length])),(225626701274425600002,some (.row 3 1 A.f.length ((unU A.f.length (s+1)).map fun x=>D.flat (.int .i64 x))))] (.tup [.flat (.bool (decide (((0:Nat):Int)≠((s:Nat):Int)))),.flat (.int .i64 0)]):=fun s hs=>by
  have h:=vl_ (unU A.f.length s) (up_ _ _) (by rw [f3_];have:=hok.hi;omega) 0 s 0 s (by rw [es_ (by omega)];simp) (by rw [es_ hs,if_neg (by omega)]) (Nat.zero_le _)
  rw [show (((0:Nat):Int))=0 from rfl,vg_ hs,f3_] at h
  exact h
 have hsp0:DLend Try.prog 94 [.ref 225626701274425600001 0,.sl false 1 A.f.length ((finM A).map fun x=>D.flat (.int .i64 x))] [(90003,none),(225626701274425600001,some (.box [.own 225626701274425600002 A.f.length])),(225626701274425600002,some (.row 3 1 A.f.length ((fn_ A.f.length).map fun x=>D.flat (.int .i64 x))))] [(90003,some (.row 3 1 A.f.length ((rndU A 0).map fun x=>D.flat (.int .i64 x)))),(225626701274425600001,some (.box [.own 90003 A.f.length])),(225626701274425600002,some (.row 3 1 A.f.length ((fn_ A.f.length).map fun x=>D.flat (.int .i64 x))))] (.flat (.int .i64 0)):=by
  have hfl:(finM A).length=A.f.length:=by simp [finM]
  have h:=qc_ (fn_ A.f.length) (finM A) A.f.length (by simp [fn_]) (by have:=hok.hi;omega) hfl (nj_ _) (wv_ (by simp [fn_]) (nj_ _) hok.hi (fun a ha=>by rw [kk_ ha];split <;> omega))
  rw [hfl] at h
  exact h
 have hsp:∀ (k j:Nat) (s:Sp),(ag_ A)[j]?=some s→DLend Try.prog 94 [.ref 225626701274425600001 0,.sl false 1 A.f.length ((b2_ A (vU A k j) s).map fun x=>D.flat (.int .i64 x))] [(90003,none),(225626701274425600001,some (.box [.own 225626701274425600002 A.f.length])),(225626701274425600002,some (.row 3 1 A.f.length ((vU A k j).map fun x=>D.flat (.int .i64 x))))] [(90003,some (.row 3 1 A.f.length ((vU A k (j+1)).map fun x=>D.flat (.int .i64 x)))),(225626701274425600001,some (.box [.own 90003 A.f.length])),(225626701274425600002,some (.row 3 1 A.f.length ((vU A k j).map fun x=>D.flat (.int .i64 x))))] (.flat (.int .i64 0)):=fun k j s hj=>by
  have hs:=bx_.1 (List.mem_of_getElem? hj)
  have hw:=tl_ hok k j
  have hl:=qi_ A (vU A k j) s
  have h:=qc_ (vU A k j) (b2_ A (vU A k j) s) A.f.length hw.len (by have:=hok.hi;omega) hl hw.flat (wv_ hw.len hw.flat hok.hi (fun a ha=>s9_ hok hw hs ha))
  rw [hl] at h
  rw [xs_ hj]
  exact h
 have hhd:∀ (k j:Nat) (s:Sp),(ag_ A)[j]?=some s→DLend Try.prog 95 [.ref 225626701274425600001 0,.clo (.func 96) [] [.ptr [.flat (.int .i64 s.sym),.flat (.int .i64 s.at_),.flat (.int .i64 s.other)] 0,.ptr (auC A) 0]] [(225626701274425600001,some (.box [.own 225626701274425600002 A.f.length])),(225626701274425600002,some (.row 3 1 A.f.length ((vU A k j).map fun x=>D.flat (.int .i64 x))))] [(225626701274425600001,some (.box [.own 225626701274425600002 A.f.length])),(225626701274425600002,some (.row 3 1 A.f.length ((vU A k j).map fun x=>D.flat (.int .i64 x))))] (.sl false 1 A.f.length ((b2_ A (vU A k j) s).map fun x=>D.flat (.int .i64 x))):=fun k j s hj=>
  vr_ A hok s (bx_.1 (List.mem_of_getElem? hj)) (vU A k j) A.f.length rfl (tl_ hok k j).len (tl_ hok k j).flat
 have hnbk:∀ k,DLend Try.prog 46 [.ref 225626701274425600001 0] [(225626701274425600001,some (.box [.own 225626701274425600002 A.f.length])),(225626701274425600002,some (.row 3 1 A.f.length ((rndU A k).map fun x=>D.flat (.int .i64 x))))] [(225626701274425600001,some (.box [.own 225626701274425600002 A.f.length])),(225626701274425600002,some (.row 3 1 A.f.length ((rndU A k).map fun x=>D.flat (.int .i64 x))))] (.flat (.int .i64 (((nbU (rndU A k)):Nat):Int))):=fun k=>by
  have hw:=f5_ hok k
  have h:=aeh (rndU A k) hw.flat (by rw [hw.len];exact hok.lo) (by rw [hw.len];have:=hok.hi;omega)
  rw [hw.len] at h
  exact h
 have hst:=ts_ A hk
 have hstl:(ag_ A).length≤5000000:=by
  have h1:=ku_ A hok.hi A.r.length
  have h2:=hok.alpha.hi
  have h3:ag_ A=stQ A A.r.length:=rfl
  rw [h3];omega
 have hsg:∀ (j:Nat) (s:Sp),(ag_ A)[j]?=some s→partD true 3 (j*3) (spC (ag_ A))=some (.agg [.flat (.int .i64 s.sym),.flat (.int .i64 s.at_),.flat (.int .i64 s.other)]):=fun j s h=>r6_ h
 have hpS:=bv_ (ag_ A)
 have hfg:∀ (j:Nat) (b:Bool),A.f[j]?=some b→partD false 1 (j*1) (A.f.map fun x=>D.flat (.bool x))=some (.flat (.bool b)):=fun j b h=>ef_ h
 have hnn:=hok.hi
 have hz0:(az_ (fun p:Nat=>if A.f.getD p false then (1:Int) else 0) A.f.length A.f.length)=finM A:=by rw [go_];rfl
 have hfget:∀ j,j<A.f.length→ ∃ b,A.f[j]?=some b∧(if A.f.getD j false then (1:Int) else 0)=if b then 1 else 0:=fun j hj=>⟨A.f[j],by simp,by simp [List.getD,hj]⟩
 have hpU:=fun U:List Int=>ab_ U
 generalize (spC (ag_ A))=LS at*
 have q1:=ab_ A.r
 have q2:=al_ A.f
 have q3:=ao_ A.to
 rw [a1_] at*
 rw [d1_] at*
 generalize (A.r.map fun x=>D.flat (.int .i64 x))=LR at*
 generalize (A.f.map fun x=>D.flat (.bool x))=LB at*
 generalize aj_ A.to=LT at*
 generalize A.f.length=n at*
 clear hok hk
 refine DLend.enterA Try.func48 Try.ntmps48 ?_
 refine DW.walk ?_
 refine vt_ ?_
 refine DW.walk ?_
 refine DW.loopA (fun s:Nat=>⟨[(1,.ptr [.sl false 1 A.r.length LR,.sl false 1 n LB,.sl false 1 A.to.length LT] 0),(3,.ref 225626701274425600001 0),(22,.flat (.int .i64 ((n:Nat):Int))),(23,.flat (.int .i64 ((s:Nat):Int)))],[(225626701274425600001,some (.box [.own 225626701274425600002 n])),(225626701274425600002,some (.row 3 1 n ((unU n s).map fun x=>D.flat (.int .i64 x))))]⟩) (fun s=>s≤n) (fun s=>n - s) 0 ?_ (Nat.zero_le _) (by rw [un_];have hp:=hpU (idU n);generalize (((idU n).map fun x=>D.flat (.int .i64 x)))=RZ at *;exact Sub.auto)
 intro s hs
 rcases Nat.lt_or_ge s n with hlt|hge
 ·have hus:=hun s hlt
  have p0:=hpU (unU n s)
  have p1:=hpU (unU n (s+1))
  generalize hX1:((unU n (s+1)).map fun x=>D.flat (.int .i64 x))=X1 at*
  generalize ((unU n s).map fun x=>D.flat (.int .i64 x))=X0 at*
  clear hnew hun hsp0 hsp hhd hnbk hst hsg hfg hfget hpU hz0
  refine DW.walk ?_
  exact⟨s+1,by omega,by omega,by rw [hX1];exact Sub.auto⟩
 ·obtain  rfl:n=s:=by omega
  rw [w9_]
  have p0:=hpU (fn_ n)
  have hfm0:List.replicate n (D.flat (.int .i64 0))=((az_ (fun p:Nat=>if A.f.getD p false then 1 else 0) n 0).map fun x=>D.flat (.int .i64 x)):=by rw [fk_];simp
  generalize hZ:((fn_ n).map fun x=>D.flat (.int .i64 x))=ZU at*
  clear hnew hun
  refine DW.walk ?_
  refine DW.loopA (fun j:Nat=>⟨[(1,.ptr [.sl false 1 A.r.length LR,.sl false 1 n LB,.sl false 1 A.to.length LT] 0),(3,.ref 225626701274425600001 0),(6,.own 33 n),(35,.sl false 1 n LB),(36,.flat (.int .i64 ((n:Nat):Int))),(37,.flat (.int .i64 ((j:Nat):Int)))],[(225626701274425600001,some (.box [.own 225626701274425600002 n])),(225626701274425600002,some (.row 3 1 n ZU)),(33,some (.row 3 1 n ((az_ (fun p:Nat=>if A.f.getD p false then 1 else 0) n j).map fun x=>D.flat (.int .i64 x))))]⟩) (fun j=>j≤n) (fun j=>n - j) 0 ?_ (Nat.zero_le _) (by have hp0:=hpU (az_ (fun p:Nat=>if A.f.getD p false then (1:Int) else 0) n 0);rw [← hfm0] at hp0 ⊢;generalize (List.replicate n (D.flat (.int .i64 0)))=RZ at *;exact Sub.auto)
  intro j hj
  rcases Nat.lt_or_ge j n with hjl|hjg
  ·obtain⟨b,hb,hb2⟩:=hfget j hjl
   have hp:=hfg j b hb
   have x0:=hpU (az_ (fun p:Nat=>if A.f.getD p false then (1:Int) else 0) n j)
   have x1:=hpU (az_ (fun p:Nat=>if A.f.getD p false then (1:Int) else 0) n (j+1))
   have hl2:(((az_ (fun p:Nat=>if A.f.getD p false then 1 else 0) n j).map fun x=>D.flat (.int .i64 x))).length=n:=by rw [List.length_map];exact do_ hj
   cases b with
   |    true=>
        rw [if_pos rfl] at hb2
        have hset:=ge_ (f:=fun p:Nat=>if A.f.getD p false then (1:Int) else 0) hjl
        rw [hb2] at hset
        generalize hX1:((az_ (fun p:Nat=>if A.f.getD p false then 1 else 0) n (j+1)).map fun x=>D.flat (.int .i64 x))=X1 at*
        generalize ((az_ (fun p:Nat=>if A.f.getD p false then 1 else 0) n j).map fun x=>D.flat (.int .i64 x))=X0 at*
        clear hsp0 hsp hhd hnbk hst hsg hfg hfget hpU hz0 hfm0
        refine DW.walk ?_
        rw [hset]
        exact⟨j+1,by omega,by omega,by rw [hX1];exact Sub.auto⟩
   |    false=>
        have hsk:((az_ (fun p:Nat=>if A.f.getD p false then 1 else 0) n (j+1)).map fun x=>D.flat (.int .i64 x))=((az_ (fun p:Nat=>if A.f.getD p false then 1 else 0) n j).map fun x=>D.flat (.int .i64 x)):=by rw [rc_ hjl (by rw [hb2];rfl)]
        generalize hX0:((az_ (fun p:Nat=>if A.f.getD p false then 1 else 0) n j).map fun x=>D.flat (.int .i64 x))=X0 at*
        clear hsp0 hsp hhd hnbk hst hsg hfg hfget hpU hz0 hfm0
        refine DW.walk ?_
        exact⟨j+1,by omega,by omega,by rw [hsk];exact Sub.auto⟩
  ·obtain rfl:n=j:=by omega
   rw [hz0]
   have x0:=hpU (finM A)
   generalize ((finM A).map fun x=>D.flat (.int .i64 x))=LM at*
   have y0:=hpU (rndU A 0)
   have hY:((rndU A 0).map fun x=>D.flat (.int .i64 x))=((rndU A 0).map fun x=>D.flat (.int .i64 x)):=rfl
   refine DW.walkTo 14 ?_
   refine DW.sub (s':=⟨[(1,.ptr [.sl false 1 A.r.length LR,.sl false 1 n LB,.sl false 1 A.to.length LT] 0),(3,.ref 225626701274425600001 0),(6,.sl false 1 n LM)],[(225626701274425600001,some (.box [.own 225626701274425600002 n])),(225626701274425600002,some (.row 3 1 n ZU))]⟩) Sub.auto ?_
   clear hfg hfget hfm0 hz0
   refine DW.walkTo 15 ?_
   refine DW.sub (s':=⟨[(1,.ptr [.sl false 1 A.r.length LR,.sl false 1 n LB,.sl false 1 A.to.length LT] 0),(3,.ref 225626701274425600001 0)],[(225626701274425600001,some (.box [.own 90003 n])),(90003,some (.row 3 1 n ((rndU A 0).map fun x=>D.flat (.int .i64 x))))]⟩) Sub.auto ?_
   refine DW.sub (rl_ (c:=225626701274425600001) (a:=90003) (b:=225626701274425600002) rfl rfl rfl (by first|rfl|decide +kernel)) ?_
   refine DW.sub (s':=⟨[(1,.ptr [.sl false 1 A.r.length LR,.sl false 1 n LB,.sl false 1 A.to.length LT] 0),(3,.ref 225626701274425600001 0)],[(225626701274425600001,some (.box [.own 225626701274425600002 n])),(225626701274425600002,some (.row 3 1 n ((rndU A 0).map fun x=>D.flat (.int .i64 x))))]⟩) Sub.auto ?_
   refine DW.walk ?_
   have hUp:=fun k=>hpU (rndU A k)
   have hVp:=fun k j=>hpU (vU A k j)
   refine DW.loopA (fun k:Nat=>⟨[(1,.ptr [.sl false 1 A.r.length LR,.sl false 1 n LB,.sl false 1 A.to.length LT] 0),(3,.ref 225626701274425600001 0),(9,.sl false 3 (ag_ A).length LS)],[(225626701274425600001,some (.box [.own 225626701274425600002 n])),(225626701274425600002,some (.row 3 1 n ((rndU A k).map fun x=>D.flat (.int .i64 x))))]⟩) (fun k=>k≤K) (fun k=>K - k) 0 ?_ (Nat.zero_le _)
   intro k hkK
   have u0:=hUp k
   have u1:=hUp (k+1)
   have hn0:=hnbk k
   have   hkk:(k=K∧((nbU (rndU A (k+1)):Nat):Int)=((nbU (rndU A k):Nat):Int))∨(k<K∧((nbU (rndU A (k+1)):Nat):Int)≠((nbU (rndU A k):Nat):Int)):=by
        rcases Nat.lt_or_ge k K with h|h
        ·exact .inr ⟨h,by have:=hKl k h;omega⟩
        ·have:k=K:=by omega
         subst this
         exact .inl ⟨rfl,by omega⟩
   refine DW.walk ?_
   refine DW.loopA (fun j:Nat=>⟨[(10,.flat (.int .i64 (((nbU (rndU A k)):Nat):Int))),(54,.sl false 3 (ag_ A).length LS),(55,.flat (.int .i64 (((ag_ A).length:Nat):Int))),(56,.flat (.int .i64 ((j:Nat):Int))),(1,.ptr [.sl false 1 A.r.length LR,.sl false 1 n LB,.sl false 1 A.to.length LT] 0),(3,.ref 225626701274425600001 0),(9,.sl false 3 (ag_ A).length LS)],[(225626701274425600001,some (.box [.own 225626701274425600002 n])),(225626701274425600002,some (.row 3 1 n ((vU A k j).map fun x=>D.flat (.int .i64 x))))]⟩) (fun j=>j≤(ag_ A).length) (fun j=>(ag_ A).length - j) 0 ?_ (Nat.zero_le _) (by rw [w5_];exact Sub.auto)
   intro j hj
   rcases Nat.lt_or_ge j (ag_ A).length with hjl|hjg
   ·    obtain⟨s,hs⟩:∃ s,(ag_ A)[j]?=some s:=⟨(ag_ A)[j],by simp⟩
        have hp:=hsg j s hs
        have hsj:=hsp k j s hs
        have hhj:=hhd k j s hs
        have v0:=hVp k j
        have v1:=hVp k (j+1)
        have v2:=hpU (b2_ A (vU A k j) s)
        generalize ((b2_ A (vU A k j) s).map fun x=>D.flat (.int .i64 x))=LH at*
        generalize hX1:((vU A k (j+1)).map fun x=>D.flat (.int .i64 x))=X1 at*
        generalize ((vU A k j).map fun x=>D.flat (.int .i64 x))=X0 at*
        clear hsg hsp hhd hnbk hUp hVp hpU hn0 hkk hst hsp0
        refine DW.walkTo 20 ?_
        refine DW.sub (s':=⟨[(12,.ptr [.flat (.int .i64 s.sym),.flat (.int .i64 s.at_),.flat (.int .i64 s.other)] 0),(10,.flat (.int .i64 (((nbU (rndU A k)):Nat):Int))),(54,.sl false 3 (ag_ A).length LS),(55,.flat (.int .i64 (((ag_ A).length:Nat):Int))),(56,.flat (.int .i64 ((j:Nat):Int))),(1,.ptr [.sl false 1 A.r.length LR,.sl false 1 n LB,.sl false 1 A.to.length LT] 0),(3,.ref 225626701274425600001 0),(9,.sl false 3 (ag_ A).length LS)],[(225626701274425600001,some (.box [.own 225626701274425600002 n])),(225626701274425600002,some (.row 3 1 n X0))]⟩) Sub.auto ?_
        refine DW.walkTo 21 ?_
        refine DW.sub (s':=⟨[(10,.flat (.int .i64 (((nbU (rndU A k)):Nat):Int))),(54,.sl false 3 (ag_ A).length LS),(55,.flat (.int .i64 (((ag_ A).length:Nat):Int))),(56,.flat (.int .i64 ((j:Nat):Int))),(1,.ptr [.sl false 1 A.r.length LR,.sl false 1 n LB,.sl false 1 A.to.length LT] 0),(3,.ref 225626701274425600001 0),(9,.sl false 3 (ag_ A).length LS)],[(225626701274425600001,some (.box [.own 90003 n])),(90003,some (.row 3 1 n X1))]⟩) Sub.auto ?_
        refine DW.sub (rl_ (c:=225626701274425600001) (a:=90003) (b:=225626701274425600002) rfl rfl rfl (by first|rfl|decide +kernel)) ?_
        refine DW.sub (s':=⟨[(10,.flat (.int .i64 (((nbU (rndU A k)):Nat):Int))),(54,.sl false 3 (ag_ A).length LS),(55,.flat (.int .i64 (((ag_ A).length:Nat):Int))),(56,.flat (.int .i64 ((j:Nat):Int))),(1,.ptr [.sl false 1 A.r.length LR,.sl false 1 n LB,.sl false 1 A.to.length LT] 0),(3,.ref 225626701274425600001 0),(9,.sl false 3 (ag_ A).length LS)],[(225626701274425600001,some (.box [.own 225626701274425600002 n])),(225626701274425600002,some (.row 3 1 n X1))]⟩) Sub.auto ?_
        refine DW.walk ?_
        exact⟨j+1,by omega,by omega,by rw [hX1];exact Sub.auto⟩
   ·    obtain rfl:j=(ag_ A).length:=by omega
        rw [abd]
        have hn1:=hnbk (k+1)
        clear hn0
        clear hsg hsp hhd hnbk hUp hVp hpU hst hsp0
        rcases hkk with⟨rfl,he⟩| ⟨hlt,he⟩
        ·generalize ((rndU A (k+1)).map fun x=>D.flat (.int .i64 x))=X1 at*
         refine DW.walk ?_
         exact⟨.inr rfl,ResL.oneA⟩
        ·generalize hX1:((rndU A (k+1)).map fun x=>D.flat (.int .i64 x))=X1 at*
         refine DW.walk ?_
         exact⟨k+1,by omega,by omega,by rw [hX1];exact Sub.auto⟩
end Go.Proofs.Ytichhfbkhnimmaa
