/- Contracts over data: what is found, what is reachable. No condition. -/
import Derived.Test.YtichhfbkhnimmaaYD7
set_option linter.unusedSimpArgs false
set_option linter.unusedVariables false
set_option maxHeartbeats 4000000
set_option maxRecDepth 8000
namespace Go.Proofs.Ytichhfbkhnimmaa
open Go Go.RowKit Go.PP Go.Dm Go.Rt Go.Mn
theorem ro_ (A:Au) (hok:AuOk A):DFun Try.prog 70 [auD A] (.sl false 1 (ac_ A).length ((ac_ A).map fun x=>D.flat (.int .i64 x))):=by
  have h3:=IdAt.of 3 54526080000005
  have h12:=IdAt.of 12 54526080000004
  have h4:=IdAt.of 4 54526080000003
  have hn:=hok.hi
  have hrl:=hok.alpha.hi
  have hz:List.replicate A.f.length (D.flat (.bool false))=(isB A.f.length []).map fun x=>D.flat (.bool x):=by
    refine List.ext_getElem? fun i=>?_
    rw [List.getElem?_map]
    by_cases hi:i<A.f.length
    ·rw [ff_ hi];simp [hi]
    ·rw [List.getElem?_eq_none (by simp;omega),List.getElem?_eq_none (by rw [d5_];omega)];rfl
  have hlsA:=fun (j:Nat) (hlt:j<A.r.length) (out0:List Int) (h1:∀ x∈out0,0≤x∧x<(A.f.length:Int)) (h2:out0.length≤512) (out:List Int) (ho:OutOk A out)=>by
    obtain⟨r1,r2,r3⟩:=de_ hok hlt
    exact xh_ A hok j (by omega) (by omega) _ r3 r2 out0 h1 h2 out ho
  have hpr:∀ (i:Nat) (x:Int),A.r[i]?=some x→partD false 1 (i*1) (A.r.map fun x=>D.flat (.int .i64 x))=some (.flat (.int .i64 x)):=fun i x h=>as_ h
  rw [au_]
  unfold fnB at hlsA
  rw [d0_] at hlsA
  generalize (A.r.map fun x=>D.flat (.int .i64 x))=LR at*
  generalize (A.f.map fun x=>D.flat (.bool x))=LB at*
  generalize ag_ A.to=LT at*
  refine DFun.enterA Try.func70 Try.ntmps70 ?_
  refine DW.walk ?_
  refine DW.adoptBox 54526080000005 0 54526080000006 3 1 rfl rfl rfl ?_
  refine DW.loopA (fun k:Nat=>⟨[(1,.ptr [.sl false 1 A.r.length LR,.sl false 1 A.f.length LB,.sl false 1 A.to.length LT] 0),(3,.ref 54526080000005 0),(4,.ref 54526080000003 0),(5,.flat (.int .i64 (wasK A k)))],fnB A (ar_ A k)⟩)
    (fun k=> ∀ j<k - 1,(ar_ A j).length<(ar_ A (j+1)).length) (fun k=>2*(A.f.length - (ar_ A k).length)+if wasK A k<((ar_ A k).length:Nat) then 1 else 0) 0 ?_ (by omega) (by
      unfold fnB
      exact Sub.auto)
  intro k hk
  have hok1:=bn_ hok k
  have hlen:=hok1.len
  have hok2:=bn_ hok (k+1)
  have hlen2:=hok2.len
  have hpre:(ar_ A k).length≤(ar_ A (k+1)).length:=(he_ A (ar_ A k)).length_le
  by_cases hw:wasK A k<((ar_ A k).length:Nat)
  · have hgk:∀ j<k,(ar_ A j).length<(ar_ A (j+1)).length:=fun j hj=>by
      by_cases hj2:j<k - 1
      ·exact hk j hj2
      · cases k with
        |zero=>omega
        | succ k=>
          have:j=k:=by omega
          subst this
          have:wasK A (j+1)=((ar_ A j).length:Nat):=rfl
          omega
    have hcl:=vm_ (ar_ A k) (by omega)
    have hw0:=hw
    generalize hwas:wasK A k=was at hw ⊢
    generalize hf:ar_ A k=out at*
    have hpo:=ad_ out
    have hpi:=ai_ (isB A.f.length out)
    unfold fnB
    refine DW.walk ?_
    refine DW.loopA (fun j:Nat=>⟨[(1,.ptr [.sl false 1 A.r.length LR,.sl false 1 A.f.length LB,.sl false 1 A.to.length LT] 0),(3,.ref 54526080000005 0),(4,.ref 54526080000003 0),(5,.flat (.int .i64 ((out.length:Nat):Int))),(6,.sl false 1 out.length (out.map fun x=>D.flat (.int .i64 x))),(22,.sl false 1 A.r.length LR),(23,.flat (.int .i64 ((A.r.length:Nat):Int))),(24,.flat (.int .i64 ((j:Nat):Int)))],fnB A (bi_ A out out j)⟩)
      (fun j=>j≤A.r.length) (fun j=>A.r.length - j) 0 ?_ (by omega) (by unfold fnB;exact Sub.auto)
    intro j hj
    have hokj:=eq_ hok hok1.rng hok1 j hj
    have hlenj:=hokj.len
    rcases Nat.lt_or_ge j A.r.length with hlt|hge
    · obtain⟨r1,r2,r3⟩:=de_ hok hlt
      have hp:=hpr j _ r1
      have hls:=hlsA j hlt out hok1.rng (by omega) (bi_ A out out j) hokj
      rw [show bl_ A j (bh_ out (A.r.getD j 0).toNat []) (bi_ A out out j)=bi_ A out out (j+1) from (bo_ ..).symm] at hls
      have hg:(bi_ A out out j).length≤(bi_ A out out (j+1)).length:=by rw [bo_];exact (eg_ ..).length_le
      unfold fnB at*
      have q1:=ai_ (isB A.f.length (bi_ A out out j))
      have q2:=ad_ (bi_ A out out j)
      have q3:=ai_ (isB A.f.length (bi_ A out out (j+1)))
      have q4:=ad_ (bi_ A out out (j+1))
      generalize (A.r.getD j 0).toNat=rk at*
      clear hlsA hpr hcl hk hgk hw0 hokj hok1 hok2 r1 r3
      refine DW.walkTo 10 ?_
      refine DW.sub (s':=⟨[(1,.ptr [.sl false 1 A.r.length LR,.sl false 1 A.f.length LB,.sl false 1 A.to.length LT] 0),(3,.ref 54526080000005 0),(4,.ref 54526080000003 0),(5,.flat (.int .i64 ((out.length:Nat):Int))),(6,.sl false 1 out.length (out.map fun x=>D.flat (.int .i64 x))),(22,.sl false 1 A.r.length LR),(23,.flat (.int .i64 ((A.r.length:Nat):Int))),(24,.flat (.int .i64 ((j:Nat):Int))),(7,.ptr [.flat (.int .i64 ((j:Nat):Int))] 0),(8,.flat (.int .i64 ((rk:Nat):Int)))],[(54526080000003,some (.box [.own 54526080000004 A.f.length])),(54526080000004,some (.row 4 1 A.f.length ((isB A.f.length (bi_ A out out j)).map fun x=>D.flat (.bool x)))),(54526080000005,some (.box [.own 54526080000006 (bi_ A out out j).length])),(54526080000006,some (.row 3 1 (bi_ A out out j).length ((bi_ A out out j).map fun x=>D.flat (.int .i64 x))))]⟩) Sub.auto ?_
      refine DW.walk ?_
      exact⟨j+1,by omega,by omega,Sub.auto⟩
    · have hje:j=A.r.length:=by omega
      subst hje
      have hfk:bi_ A out out A.r.length=ar_ A (k+1):=by rw [← hf];rfl
      rw [hfk]
      have hwk:wasK A (k+1)=((ar_ A k).length:Nat):=rfl
      rw [hf] at hwk
      rw [hwas] at hw0
      have q2:=ad_ (ar_ A (k+1))
      have q3:=ai_ (isB A.f.length (ar_ A (k+1)))
      unfold fnB
      refine DW.walk ?_
      refine⟨k+1,fun i hi=>hgk i (by omega),?_,by rw [hwk];exact Sub.auto⟩
      rw [hwk,if_pos hw]
      split <;> omega
  · have hk0:∃ k',k=k'+1:=⟨k - 1,by
      cases k with
      |zero=>exact absurd (show wasK A 0<((ar_ A 0).length:Nat) from by simp [wasK];omega) hw
      |succ k=>rfl⟩
    obtain⟨k,rfl⟩:=hk0
    have hend:=kr_ hok (k:=k) (fun i hi=>hk i (by omega)) (by
      have:wasK A (k+1)=((ar_ A k).length:Nat):=rfl
      omega)
    rw [hend] at hw ⊢
    generalize wasK A (k+1)=was at*
    have q1:=ad_ (ac_ A)
    unfold fnB
    refine DW.walk ?_
    exact⟨.inr rfl,ResOk.one [(54526080000006,some (.row 3 1 (ac_ A).length ((ac_ A).map fun x=>D.flat (.int .i64 x))))] rfl rfl ⟨rfl,trivial⟩ (Vw.own (List.mem_cons_self ..) (VwL.pers (af_ (fun _=>rfl) _)))⟩
theorem t7_ {n:Nat} {l:List Int} {j:Nat} {i:Nat} (hi:i<n) (h:l[j]?=some (i:Int)):List.take (i*1) ((isB n (l.take j)).map fun x=>D.flat (.bool x))++ [D.flat (.bool true)]++List.drop (i*1+1) ((isB n (l.take j)).map fun x=>D.flat (.bool x))=(isB n (l.take (j+1))).map fun x=>D.flat (.bool x):=by
 rw [Nat.mul_one,List.take_add_one,h]
 exact r2_ hi (l.take j)
theorem r4_ (A:Au) (hA:Few A):DFun Try.prog 98 [auD A] (.tup [.sl false 1 (mp_ A).1.length ((mp_ A).1.map fun x=>D.flat (.bool x)),.flat (.int .i64 (((mp_ A).2:Nat):Int))]):=by
 have hc:=g7_ A hA
 by_cases hk:chk A=0
 ·have hok:=a4_ hk
  have hfd:=ro_ A hok
  have ho:=bn_ hok (A.f.length+1)
  have hlen:(ac_ A).length≤A.f.length:=ho.len
  have hrng:∀ x∈ac_ A,0≤x∧x<(A.f.length:Int):=ho.rng
  have hn:=hok.hi
  rw [ik_ hk]
  rw [hk] at hc
  have hpf:∀ (i:Nat) (x:Int),(ac_ A)[i]?=some x→partD false 1 (i*1) ((ac_ A).map fun x=>D.flat (.int .i64 x))=some (.flat (.int .i64 x)):=fun i x h=>as_ h
  have hlf:=ad_ (ac_ A)
  have hz:List.replicate A.f.length (D.flat (.bool false))=(isB A.f.length ((ac_ A).take 0)).map fun x=>D.flat (.bool x):=by
   refine List.ext_getElem? fun i=>?_
   rw [List.getElem?_map,List.take_zero]
   by_cases hi:i<A.f.length
   ·rw [ff_ hi];simp [hi]
   ·rw [List.getElem?_eq_none (by simp;omega),List.getElem?_eq_none (by rw [d5_];omega)];rfl
  have hset:=fun (j i:Nat) (hi:i<A.f.length) (h:(ac_ A)[j]?=some (i:Int))=>t7_ hi h
  have hil:∀ j,((isB A.f.length ((ac_ A).take j)).map fun x=>D.flat (.bool x)).length=A.f.length:=fun j=>by simp [d5_]
  have hfull:(ac_ A).take (ac_ A).length=ac_ A:=List.take_length
  have hlb:(isB A.f.length (ac_ A)).length=A.f.length:=d5_ _ _
  generalize ac_ A=F at*
  have hc:DFun Try.prog 47 [auD A] (.flat (.int .i64 0)):=hc
  rw [au_] at*
  have hLB:=ai_ A.f
  have hLT:=al_ A.to
  have hLR:=ad_ A.r
  generalize (A.r.map fun x=>D.flat (.int .i64 x))=LR at*
  generalize (A.f.map fun x=>D.flat (.bool x))=LB at*
  generalize ag_ A.to=LT at*
  generalize (F.map fun x=>D.flat (.int .i64 x))=LF at*
  show DFun Try.prog 98 _ (.tup [.sl false 1 (isB A.f.length F).length ((isB A.f.length F).map fun x=>D.flat (.bool x)),.flat (.int .i64 0)])
  rw [hlb]
  clear ho hok hk
  refine DFun.enterA Try.func98 Try.ntmps98 ?_
  refine DW.walk ?_
  refine DW.loopA (fun j:Nat=>⟨[(5,.own 16 A.f.length),(18,.sl false 1 F.length LF),(19,.flat (.int .i64 ((F.length:Nat):Int))),(20,.flat (.int .i64 ((j:Nat):Int)))],[(16,some (.row 4 1 A.f.length ((isB A.f.length (F.take j)).map fun x=>D.flat (.bool x))))]⟩) (fun j=>j≤F.length) (fun j=>F.length - j) 0 ?_ (Nat.zero_le _)
  intro j hj
  have q1:=hil j
  have q2:=ai_ (isB A.f.length (F.take j))
  have q3:=ai_ (isB A.f.length (F.take (j+1)))
  rcases Nat.lt_or_ge j F.length with hlt|hge
  ·obtain⟨x,hx⟩:∃ x,F[j]?=some x:=⟨_,List.getElem?_eq_getElem hlt⟩
   obtain⟨x0,x1⟩:=hrng x (List.mem_of_getElem? hx)
   obtain⟨i,rfl⟩:=Int.eq_ofNat_of_zero_le x0
   have hp:=hpf j _ hx
   have hs:=hset j i (by omega) hx
   clear hpf hset hil hrng hx hz hfull
   generalize hG:((isB A.f.length (F.take (j+1))).map (fun x=>D.flat (.bool x)))=G at*
   generalize ((isB A.f.length (F.take j)).map (fun x=>D.flat (.bool x)))=H at*
   refine DW.walk ?_
   exact⟨j+1,by omega,by omega,by rw [hG];exact Sub.auto⟩
  ·obtain rfl:j=F.length:=by omega
   rw [hfull] at*
   clear hpf hset hil hrng hz
   refine DW.walk ?_
   exact⟨.inr rfl,ResOk.two [(16,some (.row 4 1 A.f.length ((isB A.f.length F).map fun x=>D.flat (.bool x))))] rfl rfl rfl ⟨rfl,trivial⟩ (Vw.own (List.mem_cons_self ..) (VwL.pers (af_ (fun _=>rfl) _))) (Vw.pers rfl)⟩
 ·rw [qn_ hk]
  generalize chk A=e at*
  rw [au_] at*
  generalize (A.r.map fun x=>D.flat (.int .i64 x))=LR at*
  generalize (A.f.map fun x=>D.flat (.bool x))=LB at*
  generalize ag_ A.to=LT at*
  show DFun Try.prog 98 _ (.tup [.sl false 1 0 [],.flat (.int .i64 ((e:Nat):Int))])
  refine DFun.enterA Try.func98 Try.ntmps98 ?_
  refine DW.walk ?_
  exact⟨.inr rfl,ResOk.two [] rfl rfl rfl trivial (Vw.p rfl (Le.nil _ _)) (Vw.pers rfl)⟩
theorem mv_ (n:Nat):∀ j p,digs n (j+1) p=((p / n ^ j % n:Nat):Int)::digs n j p
 |0,p=>by simp [digs]
 |j+1,p=>by
  rw [digs,mv_ n j (p / n)]
  have h:p / n / n ^ j=p / n ^ (j+1):=by rw [Nat.div_div_eq_div_mul,Nat.pow_succ,Nat.mul_comm n]
  rw [h]
  show _::digs n j (p / n)++ [_]=_
  rw [List.cons_append]
  rfl
theorem er_ {n:Nat} {T:Int→List Int→Int} {rs:List Int} {i:Nat} {k:Int} (h:rs[i]?=some k):(aj_ n T rs)[i]?=some (az_ n T i k):=by
 have hi:=(List.getElem?_eq_some_iff.1 h).1
 unfold aj_
 rw [List.getElem?_map,List.getElem?_range hi]
 simp [List.getD,h]
theorem yo_ (m:Nat) (x:D) (z:D) (l:List D):List.take (m*1) (List.replicate (m+1) z++l)++ [x]++List.drop (m*1+1) (List.replicate (m+1) z++l)=List.replicate m z++x::l:=by
 rw [List.replicate_succ',Nat.mul_one]
 simp [List.take_append,List.drop_append]
theorem gg_ {t:List (List Int)} {i:Nat} {r:List Int} (h:t[i]?=some r):ag_ (t.take (i+1))=ag_ (t.take i)++ [.sl false 1 r.length (r.map fun x=>D.flat (.int .i64 x))]:=by
 rw [List.take_add_one,h]
 simp [ag_]
theorem ab1 (rs:List Int) (n:Nat) (Tt:Int→List Int→Int) (Ff:Nat→Bool) (kt kf:FuncId) (ft ct ff cf:List D)
  (hrs:rs.length≤4096) (hr:∀ k∈rs,0≤k∧k≤2) (hn:n≤512) (hn0:0<n) (hkT:Enters Try.prog kt) (hkF:Enters Try.prog kf)
  (pcT:pers (.clo (.func kt) ft ct)=true) (pcF:pers (.clo (.func kf) ff cf)=true)
  (hpT:∀ (i k:Nat) (l:List Int),persL (ft++ [.flat (.int .i64 ((i:Nat):Int)),.sl false 1 k (l.map fun x=>D.flat (.int .i64 x))]++ct)=true) (hpF:∀ s:Nat,persL (ff++ [.flat (.int .i64 ((s:Nat):Int))]++cf)=true)
  (hT:∀ (i k p:Nat),rs[i]?=some ((k:Nat):Int)→p<ba_ k n→DFun Try.prog kt (ft++ [.flat (.int .i64 ((i:Nat):Int)),.sl false 1 k ((digs n k p).map fun x=>D.flat (.int .i64 x))]++ct) (.flat (.int .i64 (Tt i (digs n k p)))))
  (hF:∀ s:Nat,s<n→DFun Try.prog kf (ff++ [.flat (.int .i64 ((s:Nat):Int))]++cf) (.flat (.bool (Ff s)))):
  DFun Try.prog 71 [.sl false 1 rs.length (rs.map fun x=>D.flat (.int .i64 x)),.flat (.int .i64 ((n:Nat):Int)),.clo (.func kt) ft ct,.clo (.func kf) ff cf] (auD (cj_ rs n Tt Ff)):=by
 have hcl:=nl_ rs (by omega)
 have hprs:∀ (i:Nat) (x:Int),rs[i]?=some x→partD false 1 (i*1) (rs.map fun x=>D.flat (.int .i64 x))=some (.flat (.int .i64 x)):=fun i x h=>as_ h
 have hlrs:=ad_ rs
 have hres:auD (cj_ rs n Tt Ff)= .agg [.sl false 1 rs.length (rs.map fun x=>D.flat (.int .i64 x)),.sl false 1 n (((List.range n).map Ff).map fun x=>D.flat (.bool x)),.sl false 1 rs.length (ag_ (aj_ n Tt rs))]:=by
  rw [au_]
  have h1:(cj_ rs n Tt Ff).f.length=n:=be_ ..
  have h2:(cj_ rs n Tt Ff).to.length=rs.length:=et_ ..
  rw [h1,h2]
  rfl
 have htl:(aj_ n Tt rs).length=rs.length:=by simp [aj_]
 rw [hres]
 generalize (rs.map fun x=>D.flat (.int .i64 x))=LRS at*
 clear hres
 refine DFun.enterA Try.func71 Try.ntmps71 ?_
 refine DW.walkTo 2 ?_
 refine DW.adoptBox 9 1 103 4 1 rfl rfl rfl ?_
 refine DW.adoptBox 9 2 104 22 1 rfl rfl rfl ?_
 refine DW.walk ?_
 refine DW.loopA (fun j:Nat=>⟨[(22,.flat (.int .i64 ((j:Nat):Int))),(21,.flat (.int .i64 ((n:Nat):Int))),(9,.ref 9 0),(8,.ref 8 0),(0,.sl false 1 rs.length LRS),(1,.flat (.int .i64 ((n:Nat):Int))),(2,.clo (.func kt) ft ct),(3,.clo (.func kf) ff cf)],[(9,some (.box [.sl false 1 rs.length LRS,.own 103 j,.own 104 0])),(103,some (.row 4 1 j (((List.range j).map Ff).map fun x=>D.flat (.bool x)))),(104,some (.row 22 1 0 [])),(8,some (.box [.flat (.slice none 0 0),.flat (.slice none 0 0),.flat (.slice none 0 0)]))]⟩) (fun j=>j≤n) (fun j=>n - j) 0 ?_ (Nat.zero_le _)
 intro j hj
 rcases Nat.lt_or_ge j n with hlt|hge
 ·have hFj:=hF j hlt
  have hpj:=hpF j
  have hq:(((List.range j).map Ff).map fun x=>D.flat (.bool x))++ [.flat (.bool (Ff j))]=(((List.range (j+1)).map Ff).map fun x=>D.flat (.bool x)):=by simp [List.range_succ]
  have hqp:=af_ (f:=fun x=>D.flat (.bool x)) (fun _=>rfl) ((List.range (j+1)).map Ff)
  have hol:oneL (((List.range j).map Ff).map fun x=>D.flat (.bool x))=true:=gu_ (fun _=>rfl) _
  generalize hG1:(((List.range (j+1)).map Ff).map fun x=>D.flat (.bool x))=G1 at*
  generalize (((List.range j).map Ff).map fun x=>D.flat (.bool x))=G0 at*
  clear hT hpT hF hpF hprs
  refine DW.walk ?_
  rw [hq]
  exact⟨j+1,by omega,by omega,by rw [hG1];exact Sub.auto⟩
 ·obtain  rfl:n=j:=by omega
  have hpB:=af_ (f:=fun x=>D.flat (.bool x)) (fun _=>rfl) ((List.range n).map Ff)
  generalize (((List.range n).map Ff).map fun x=>D.flat (.bool x))=GB at*
  clear hF hpF hge hj
  refine DW.walk ?_
  refine DW.loopA (fun i:Nat=>⟨[(36,.flat (.int .i64 ((i:Nat):Int))),(35,.flat (.int .i64 ((rs.length:Nat):Int))),(34,.sl false 1 rs.length LRS),(9,.ref 9 0),(8,.ref 8 0),(1,.flat (.int .i64 ((n:Nat):Int))),(2,.clo (.func kt) ft ct)],[(9,some (.box [.sl false 1 rs.length LRS,.own 103 n,.own 104 i])),(103,some (.row 4 1 n GB)),(104,some (.row 22 1 i (ag_ ((aj_ n Tt rs).take i)))),(8,some (.box [.flat (.slice none 0 0),.flat (.slice none 0 0),.flat (.slice none 0 0)]))]⟩) (fun i=>i≤rs.length) (fun i=>rs.length - i) 0 ?_ (Nat.zero_le _)
  intro i hi
  rcases Nat.lt_or_ge i rs.length with hil|hig
  ·obtain ⟨k0,hk0⟩:∃ k0,rs[i]?=some k0:=⟨rs[i],by simp⟩
   have hkr:=hr k0 (List.mem_of_getElem? hk0)
   obtain⟨k,rfl⟩:∃ k:Nat,k0=(k:Int):=⟨k0.toNat,by omega⟩
   have hk2:k≤2:=by omega
   have hpt:=hprs i _ hk0
   have hwb:=lj_ (k:=(k:Int)) (n:=n) (by omega) hn
   have hrow:az_ n Tt i (k:Int)=(List.range (ba_ (k:Int) n)).map fun p=>Tt i (digs n k p):=by simp [az_]
   have hwd:=pn_ k n hk2 hn
   have hTk:=fun p hp=>hT i k p hk0 hp
   have hTp:=fun p=>hpT i k (digs n k p)
   have hsn:=gg_ (er_ (n:=n) (T:=Tt) hk0)
   rw [hrow] at hsn
   clear hT hpT hprs hcl hrow
   have hpG:=al_ ((aj_ n Tt rs).take i)
   have hpG1:=al_ ((aj_ n Tt rs).take (i+1))
   generalize hGT:ag_ ((aj_ n Tt rs).take i)=GT at*
   generalize hGT1:ag_ ((aj_ n Tt rs).take (i+1))=GT1 at*
   generalize hwe:ba_ (k:Int) n=wd at*
   refine DW.walkTo 11 ?_
   refine DW.adopt 13 105 3 1 rfl rfl ?_
   refine DW.walk ?_
   refine DW.loopA (fun p:Nat=>⟨[(44,.flat (.int .i64 ((p:Nat):Int))),(43,.flat (.int .i64 ((wd:Nat):Int))),(13,.own 105 p),(12,.flat (.int .i64 ((k:Nat):Int))),(11,.flat (.int .i64 ((i:Nat):Int))),(36,.flat (.int .i64 ((i:Nat):Int))),(35,.flat (.int .i64 ((rs.length:Nat):Int))),(34,.sl false 1 rs.length LRS),(9,.ref 9 0),(8,.ref 8 0),(1,.flat (.int .i64 ((n:Nat):Int))),(2,.clo (.func kt) ft ct)],[(105,some (.row 3 1 p (((List.range p).map fun q=>Tt i (digs n k q)).map (fun x=>D.flat (.int .i64 x))))),(9,some (.box [.sl false 1 rs.length LRS,.own 103 n,.own 104 i])),(103,some (.row 4 1 n GB)),(104,some (.row 22 1 i GT)),(8,some (.box [.flat (.slice none 0 0),.flat (.slice none 0 0),.flat (.slice none 0 0)]))]⟩) (fun p=>p≤wd) (fun p=>wd - p) 0 ?_ (Nat.zero_le _) (by simp only [List.range_zero,List.map_nil];exact Sub.auto)
   intro p hp
   rcases Nat.lt_or_ge p wd with hpl|hpg
   ·    have hTq:=hTk p hpl
        have hTr:=hTp p
        have hq2:((List.range p).map fun q=>Tt i (digs n k q)).map (fun x=>D.flat (.int .i64 x))++ [.flat (.int .i64 (Tt i (digs n k p)))]=((List.range (p+1)).map fun q=>Tt i (digs n k q)).map (fun x=>D.flat (.int .i64 x)):=by simp [List.range_succ]
        have hpR1:=ad_ ((List.range (p+1)).map fun q=>Tt i (digs n k q))
        have hpR0:=ad_ ((List.range p).map fun q=>Tt i (digs n k q))
        generalize hR1:((List.range (p+1)).map fun q=>Tt i (digs n k q)).map (fun x=>D.flat (.int .i64 x))=R1 at*
        generalize hR0:((List.range p).map fun q=>Tt i (digs n k q)).map (fun x=>D.flat (.int .i64 x))=R0 at*
        clear hTk hTp
        refine DW.walk ?_
        refine DW.loopA (fun q:Nat=>⟨[(16,.flat (.int .i64 ((k:Int) - 1 - q))),(17,.flat (.int .i64 ((p / n ^ q:Nat):Int))),(15,.own 48 k),(14,.flat (.int .i64 ((p:Nat):Int))),(44,.flat (.int .i64 ((p:Nat):Int))),(43,.flat (.int .i64 ((wd:Nat):Int))),(13,.own 105 p),(12,.flat (.int .i64 ((k:Nat):Int))),(11,.flat (.int .i64 ((i:Nat):Int))),(36,.flat (.int .i64 ((i:Nat):Int))),(35,.flat (.int .i64 ((rs.length:Nat):Int))),(34,.sl false 1 rs.length LRS),(9,.ref 9 0),(8,.ref 8 0),(1,.flat (.int .i64 ((n:Nat):Int))),(2,.clo (.func kt) ft ct)],[(48,some (.row 3 1 k (List.replicate (k - q) (.flat (.int .i64 0))++(digs n q p).map (fun x=>D.flat (.int .i64 x))))),(105,some (.row 3 1 p R0)),(9,some (.box [.sl false 1 rs.length LRS,.own 103 n,.own 104 i])),(103,some (.row 4 1 n GB)),(104,some (.row 22 1 i GT)),(8,some (.box [.flat (.slice none 0 0),.flat (.slice none 0 0),.flat (.slice none 0 0)]))]⟩) (fun q=>q≤k) (fun q=>k - q) 0 ?_ (Nat.zero_le _) (by simp only [digs,List.map_nil,List.append_nil,Nat.sub_zero,Nat.pow_zero,Nat.div_one,Int.sub_zero];have hpz:=jm_ (d:= .flat (.int .i64 0)) rfl (n:=k);generalize (List.replicate k (.flat (.int .i64 0)):List D)=RZ at *;exact Sub.auto)
        intro q hq
        rcases Nat.lt_or_ge q k with hql|hqg
        ·obtain⟨m,hm⟩:∃ m,k=q+m+1:=⟨k - q - 1,by omega⟩
         rw [show (k:Int) - 1 - q=(m:Int) by omega,show k - q=m+1 by omega]
         have hdl:=b8_ n q p
         generalize hDG:(digs n q p).map (fun x=>D.flat (.int .i64 x))=DG at*
         have hpp:p / n ^ q≤262144:=Nat.le_trans (Nat.div_le_self _ _) (by omega)
         generalize hpq:p / n ^ q=pq at*
         refine DW.walk ?_
         refine⟨q+1,by omega,by omega,?_⟩
         rw [yo_,show (k:Int) - 1 - ((q+1:Nat):Int)=(m:Int) - 1 by omega,show k - (q+1)=m by omega,show (digs n (q+1) p).map (fun x=>D.flat (.int .i64 x))= .flat (.int .i64 ((pq % n:Nat):Int))::DG by rw [mv_,hpq,List.map_cons,hDG],show p / n ^ (q+1)=pq / n by rw [Nat.pow_succ,← Nat.div_div_eq_div_mul,hpq]]
         have hpm:persL (List.replicate m (.flat (.int .i64 0))++ .flat (.int .i64 ((pq % n:Nat):Int))::DG)=true:=bv_ (jm_ rfl) (by rw [← hDG];exact ad_ (((pq % n:Nat):Int)::digs n q p))
         generalize (List.replicate m (.flat (.int .i64 0))++ .flat (.int .i64 ((pq % n:Nat):Int))::DG)=RM at*
         exact Sub.auto
        ·obtain rfl:k=q:=by omega
         rw [show (k:Int) - 1 - k= -1 by omega,Nat.sub_self,List.replicate_zero,List.nil_append]
         have hpl1:=ad_ (digs n k p)
         generalize (digs n k p).map (fun x=>D.flat (.int .i64 x))=DG at*
         clear hqg
         refine DW.walkTo 19 ?_
         refine DW.sub (s':=⟨[(15,.sl false 1 k DG),(14,.flat (.int .i64 ((p:Nat):Int))),(44,.flat (.int .i64 ((p:Nat):Int))),(43,.flat (.int .i64 ((wd:Nat):Int))),(13,.own 105 p),(12,.flat (.int .i64 ((k:Nat):Int))),(11,.flat (.int .i64 ((i:Nat):Int))),(36,.flat (.int .i64 ((i:Nat):Int))),(35,.flat (.int .i64 ((rs.length:Nat):Int))),(34,.sl false 1 rs.length LRS),(9,.ref 9 0),(8,.ref 8 0),(1,.flat (.int .i64 ((n:Nat):Int))),(2,.clo (.func kt) ft ct)],[(105,some (.row 3 1 p R0)),(9,some (.box [.sl false 1 rs.length LRS,.own 103 n,.own 104 i])),(103,some (.row 4 1 n GB)),(104,some (.row 22 1 i GT)),(8,some (.box [.flat (.slice none 0 0),.flat (.slice none 0 0),.flat (.slice none 0 0)]))]⟩) Sub.auto ?_
         refine DW.walk ?_
         rw [hq2]
         exact⟨p+1,by omega,by omega,by rw [hR1];exact Sub.auto⟩
   ·    obtain rfl:wd=p:=by omega
        have hpR:=ad_ ((List.range wd).map fun q=>Tt i (digs n k q))
        simp only [List.length_map,List.length_range] at hsn
        generalize ((List.range wd).map fun q=>Tt i (digs n k q)).map (fun x=>D.flat (.int .i64 x))=R at*
        refine DW.walkTo 21 ?_
        refine DW.sub (s':=⟨[(13,.sl false 1 wd R),(36,.flat (.int .i64 ((i:Nat):Int))),(35,.flat (.int .i64 ((rs.length:Nat):Int))),(34,.sl false 1 rs.length LRS),(9,.ref 9 0),(8,.ref 8 0),(1,.flat (.int .i64 ((n:Nat):Int))),(2,.clo (.func kt) ft ct)],[(9,some (.box [.sl false 1 rs.length LRS,.own 103 n,.own 104 i])),(103,some (.row 4 1 n GB)),(104,some (.row 22 1 i GT)),(8,some (.box [.flat (.slice none 0 0),.flat (.slice none 0 0),.flat (.slice none 0 0)]))]⟩) Sub.auto ?_
        refine DW.walk ?_
        rw [← hsn]
        exact⟨i+1,by omega,by omega,by rw [hGT1];exact Sub.auto⟩
  ·obtain rfl:i=rs.length:=by omega
   rw [List.take_of_length_le (show (aj_ n Tt rs).length≤rs.length by omega)]
   have hpG:=al_ (aj_ n Tt rs)
   generalize ag_ (aj_ n Tt rs)=GT at*
   refine DW.walk ?_
   exact⟨.inr rfl,ResOk.cellA [(103,some (.row 4 1 n GB)),(104,some (.row 22 1 rs.length GT))] rfl rfl rfl TyI.ag TyI.sz ⟨rfl,rfl,trivial⟩ (.cons (Vw.pers (by first|exact hlrs|(show persL _=true;exact hlrs)|(simp [pers];done)|(simp [pers];exact hlrs))) (.cons (Vw.own (.head _) (VwL.pers hpB)) (.cons (Vw.own (.tail _ (.head _)) (VwL.pers hpG)) .nil))) (Le.refl _)⟩
end Go.Proofs.Ytichhfbkhnimmaa
