/- Contracts over data: made automata, with any closures. No condition. -/
import Derived.Test.YtichhfbkhnimmaaVD8
set_option linter.unusedSimpArgs false
set_option linter.unusedVariables false
set_option maxHeartbeats 4000000
set_option maxRecDepth 8000
namespace Go.Proofs.Ytichhfbkhnimmaa
open Go Go.RowKit Go.PP Go.Dm Go.Rt Go.Mn
theorem nb_ (n:Nat):∀ j p,digs n (j+1) p=((p / n ^ j % n:Nat):Int)::digs n j p
 |0,p=>by simp [digs]
 |j+1,p=>by
  rw [digs,nb_ n j (p / n)]
  have h:p / n / n ^ j=p / n ^ (j+1):=by rw [Nat.div_div_eq_div_mul,Nat.pow_succ,Nat.mul_comm n]
  rw [h]
  show _::digs n j (p / n)++ [_]=_
  rw [List.cons_append]
  rfl
theorem g9_ {n:Nat} {T:Int→List Int→Int} {rs:List Int} {i:Nat} {k:Int} (h:rs[i]?=some k):(ap_ n T rs)[i]?=some (a3_ n T i k):=by
 have hi:=(List.getElem?_eq_some_iff.1 h).1
 unfold ap_
 rw [List.getElem?_map,List.getElem?_range hi]
 simp [List.getD,h]
theorem xg_ (m:Nat) (x:D) (z:D) (l:List D):List.take (m*1) (List.replicate (m+1) z++l)++ [x]++List.drop (m*1+1) (List.replicate (m+1) z++l)=List.replicate m z++x::l:=by
 rw [List.replicate_succ',Nat.mul_one]
 simp [List.take_append,List.drop_append]
theorem ml_ {t:List (List Int)} {i:Nat} {r:List Int} (h:t[i]?=some r):aj_ (t.take (i+1))=aj_ (t.take i)++ [.sl false 1 r.length (r.map fun x=>D.flat (.int .i64 x))]:=by
 rw [List.take_add_one,h]
 simp [aj_]
theorem abi (rs:List Int) (n:Nat) (Tt:Int→List Int→Int) (Ff:Nat→Bool) (kt kf:FuncId) (ft ct ff cf:List D)
  (hrs:rs.length≤4096) (hr:∀ k∈rs,0≤k∧k≤2) (hn:n≤512) (hn0:0<n) (hkT:Enters Try.prog kt) (hkF:Enters Try.prog kf)
  (pcT:pers (.clo (.func kt) ft ct)=true) (pcF:pers (.clo (.func kf) ff cf)=true)
  (hpT:∀ (i k:Nat) (l:List Int),persL (ft++ [.flat (.int .i64 ((i:Nat):Int)),.sl false 1 k (l.map fun x=>D.flat (.int .i64 x))]++ct)=true) (hpF:∀ s:Nat,persL (ff++ [.flat (.int .i64 ((s:Nat):Int))]++cf)=true)
  (hT:∀ (i k p:Nat),rs[i]?=some ((k:Nat):Int)→p<ba_ k n→DFun Try.prog kt (ft++ [.flat (.int .i64 ((i:Nat):Int)),.sl false 1 k ((digs n k p).map fun x=>D.flat (.int .i64 x))]++ct) (.flat (.int .i64 (Tt i (digs n k p)))))
  (hF:∀ s:Nat,s<n→DFun Try.prog kf (ff++ [.flat (.int .i64 ((s:Nat):Int))]++cf) (.flat (.bool (Ff s)))):
  DFun Try.prog 71 [.sl false 1 rs.length (rs.map fun x=>D.flat (.int .i64 x)),.flat (.int .i64 ((n:Nat):Int)),.clo (.func kt) ft ct,.clo (.func kf) ff cf] (auD (d7_ rs n Tt Ff)):=by
 have hcl:=mk_ rs (by omega)
 have hprs:∀ (i:Nat) (x:Int),rs[i]?=some x→partD false 1 (i*1) (rs.map fun x=>D.flat (.int .i64 x))=some (.flat (.int .i64 x)):=fun i x h=>an_ h
 have hlrs:=ab_ rs
 have hres:auD (d7_ rs n Tt Ff)= .agg [.sl false 1 rs.length (rs.map fun x=>D.flat (.int .i64 x)),.sl false 1 n (((List.range n).map Ff).map fun x=>D.flat (.bool x)),.sl false 1 rs.length (aj_ (ap_ n Tt rs))]:=by
  rw [a1_]
  have h1:(d7_ rs n Tt Ff).f.length=n:=a7_ ..
  have h2:(d7_ rs n Tt Ff).to.length=rs.length:=f0_ ..
  rw [h1,h2]
  rfl
 have htl:(ap_ n Tt rs).length=rs.length:=by simp [ap_]
 rw [hres]
 generalize (rs.map fun x=>D.flat (.int .i64 x))=LRS at*
 clear hres
 refine DFun.enterA Try.func71 Try.ntmps71 ?_
 refine DW.walkTo 2 ?_
 refine DW.adoptBox 9 1 103 4 1 rfl rfl rfl ?_
 refine DW.adoptBox 9 2 104 22 1 rfl rfl rfl ?_
 refine DW.walk ?_
 refine DW.loopA (fun j:Nat=>⟨[(22,.flat (.int .i64 ((j:Nat):Int))),(21,.flat (.int .i64 ((n:Nat):Int))),(9,.ref 9 0),(8,.ref 8 0),(0,.sl false 1 rs.length LRS),(1,.flat (.int .i64 ((n:Nat):Int))),(2,.clo (.func kt) ft ct),(3,.clo (.func kf) ff cf)],[(9,some (.box [.sl false 1 rs.length LRS,.own 103 j,.own 104 0])),(103,some (.row 4 1 j (((List.range j).map Ff).map fun x=>D.flat (.bool x)))),(104,some (.row 22 1 0 [])),(8,some (.box [.flat (.slice none 0 0),.flat (.slice none 0 0),.flat (.slice none 0 0)]))]⟩) (fun j=>j≤n) (fun j=>n - j) 0 ?_ (Nat.zero_le _)
 intro j hj
 rcases Nat.lt_or_ge j n with hlt|hge
 ·have hFj:=hF j hlt
  have hpj:=hpF j
  have hq:(((List.range j).map Ff).map fun x=>D.flat (.bool x))++ [.flat (.bool (Ff j))]=(((List.range (j+1)).map Ff).map fun x=>D.flat (.bool x)):=by simp [List.range_succ]
  have hqp:=ac_ (f:=fun x=>D.flat (.bool x)) (fun _=>rfl) ((List.range (j+1)).map Ff)
  have hol:oneL (((List.range j).map Ff).map fun x=>D.flat (.bool x))=true:=gl_ (fun _=>rfl) _
  generalize hG1:(((List.range (j+1)).map Ff).map fun x=>D.flat (.bool x))=G1 at*
  generalize (((List.range j).map Ff).map fun x=>D.flat (.bool x))=G0 at*
  clear hT hpT hF hpF hprs
  refine DW.walk ?_
  rw [hq]
  exact⟨j+1,by omega,by omega,by rw [hG1];exact Sub.auto⟩
 ·obtain  rfl:n=j:=by omega
  have hpB:=ac_ (f:=fun x=>D.flat (.bool x)) (fun _=>rfl) ((List.range n).map Ff)
  generalize (((List.range n).map Ff).map fun x=>D.flat (.bool x))=GB at*
  clear hF hpF hge hj
  refine DW.walk ?_
  refine DW.loopA (fun i:Nat=>⟨[(36,.flat (.int .i64 ((i:Nat):Int))),(35,.flat (.int .i64 ((rs.length:Nat):Int))),(34,.sl false 1 rs.length LRS),(9,.ref 9 0),(8,.ref 8 0),(1,.flat (.int .i64 ((n:Nat):Int))),(2,.clo (.func kt) ft ct)],[(9,some (.box [.sl false 1 rs.length LRS,.own 103 n,.own 104 i])),(103,some (.row 4 1 n GB)),(104,some (.row 22 1 i (aj_ ((ap_ n Tt rs).take i)))),(8,some (.box [.flat (.slice none 0 0),.flat (.slice none 0 0),.flat (.slice none 0 0)]))]⟩) (fun i=>i≤rs.length) (fun i=>rs.length - i) 0 ?_ (Nat.zero_le _)
  intro i hi
  rcases Nat.lt_or_ge i rs.length with hil|hig
  ·obtain ⟨k0,hk0⟩:∃ k0,rs[i]?=some k0:=⟨rs[i],by simp⟩
   have hkr:=hr k0 (List.mem_of_getElem? hk0)
   obtain⟨k,rfl⟩:∃ k:Nat,k0=(k:Int):=⟨k0.toNat,by omega⟩
   have hk2:k≤2:=by omega
   have hpt:=hprs i _ hk0
   have hwb:=oz_ (k:=(k:Int)) (n:=n) (by omega) hn
   have hrow:a3_ n Tt i (k:Int)=(List.range (ba_ (k:Int) n)).map fun p=>Tt i (digs n k p):=by simp [a3_]
   have hwd:=pw_ k n hk2 hn
   have hTk:=fun p hp=>hT i k p hk0 hp
   have hTp:=fun p=>hpT i k (digs n k p)
   have hsn:=ml_ (g9_ (n:=n) (T:=Tt) hk0)
   rw [hrow] at hsn
   clear hT hpT hprs hcl hrow
   have hpG:=ao_ ((ap_ n Tt rs).take i)
   have hpG1:=ao_ ((ap_ n Tt rs).take (i+1))
   generalize hGT:aj_ ((ap_ n Tt rs).take i)=GT at*
   generalize hGT1:aj_ ((ap_ n Tt rs).take (i+1))=GT1 at*
   generalize hwe:ba_ (k:Int) n=wd at*
   refine DW.walkTo 11 ?_
   refine DW.adopt 13 105 3 1 rfl rfl ?_
   refine DW.walk ?_
   refine DW.loopA (fun p:Nat=>⟨[(44,.flat (.int .i64 ((p:Nat):Int))),(43,.flat (.int .i64 ((wd:Nat):Int))),(13,.own 105 p),(12,.flat (.int .i64 ((k:Nat):Int))),(11,.flat (.int .i64 ((i:Nat):Int))),(36,.flat (.int .i64 ((i:Nat):Int))),(35,.flat (.int .i64 ((rs.length:Nat):Int))),(34,.sl false 1 rs.length LRS),(9,.ref 9 0),(8,.ref 8 0),(1,.flat (.int .i64 ((n:Nat):Int))),(2,.clo (.func kt) ft ct)],[(105,some (.row 3 1 p (((List.range p).map fun q=>Tt i (digs n k q)).map (fun x=>D.flat (.int .i64 x))))),(9,some (.box [.sl false 1 rs.length LRS,.own 103 n,.own 104 i])),(103,some (.row 4 1 n GB)),(104,some (.row 22 1 i GT)),(8,some (.box [.flat (.slice none 0 0),.flat (.slice none 0 0),.flat (.slice none 0 0)]))]⟩) (fun p=>p≤wd) (fun p=>wd - p) 0 ?_ (Nat.zero_le _) (by simp only [List.range_zero,List.map_nil];exact Sub.auto)
   intro p hp
   rcases Nat.lt_or_ge p wd with hpl|hpg
   ·    have hTq:=hTk p hpl
        have hTr:=hTp p
        have hq2:((List.range p).map fun q=>Tt i (digs n k q)).map (fun x=>D.flat (.int .i64 x))++ [.flat (.int .i64 (Tt i (digs n k p)))]=((List.range (p+1)).map fun q=>Tt i (digs n k q)).map (fun x=>D.flat (.int .i64 x)):=by simp [List.range_succ]
        have hpR1:=ab_ ((List.range (p+1)).map fun q=>Tt i (digs n k q))
        have hpR0:=ab_ ((List.range p).map fun q=>Tt i (digs n k q))
        generalize hR1:((List.range (p+1)).map fun q=>Tt i (digs n k q)).map (fun x=>D.flat (.int .i64 x))=R1 at*
        generalize hR0:((List.range p).map fun q=>Tt i (digs n k q)).map (fun x=>D.flat (.int .i64 x))=R0 at*
        clear hTk hTp
        refine DW.walk ?_
        refine DW.loopA (fun q:Nat=>⟨[(16,.flat (.int .i64 ((k:Int) - 1 - q))),(17,.flat (.int .i64 ((p / n ^ q:Nat):Int))),(15,.own 48 k),(14,.flat (.int .i64 ((p:Nat):Int))),(44,.flat (.int .i64 ((p:Nat):Int))),(43,.flat (.int .i64 ((wd:Nat):Int))),(13,.own 105 p),(12,.flat (.int .i64 ((k:Nat):Int))),(11,.flat (.int .i64 ((i:Nat):Int))),(36,.flat (.int .i64 ((i:Nat):Int))),(35,.flat (.int .i64 ((rs.length:Nat):Int))),(34,.sl false 1 rs.length LRS),(9,.ref 9 0),(8,.ref 8 0),(1,.flat (.int .i64 ((n:Nat):Int))),(2,.clo (.func kt) ft ct)],[(48,some (.row 3 1 k (List.replicate (k - q) (.flat (.int .i64 0))++(digs n q p).map (fun x=>D.flat (.int .i64 x))))),(105,some (.row 3 1 p R0)),(9,some (.box [.sl false 1 rs.length LRS,.own 103 n,.own 104 i])),(103,some (.row 4 1 n GB)),(104,some (.row 22 1 i GT)),(8,some (.box [.flat (.slice none 0 0),.flat (.slice none 0 0),.flat (.slice none 0 0)]))]⟩) (fun q=>q≤k) (fun q=>k - q) 0 ?_ (Nat.zero_le _) (by simp only [digs,List.map_nil,List.append_nil,Nat.sub_zero,Nat.pow_zero,Nat.div_one,Int.sub_zero];have hpz:=jk_ (d:= .flat (.int .i64 0)) rfl (n:=k);generalize (List.replicate k (.flat (.int .i64 0)):List D)=RZ at *;exact Sub.auto)
        intro q hq
        rcases Nat.lt_or_ge q k with hql|hqg
        ·obtain⟨m,hm⟩:∃ m,k=q+m+1:=⟨k - q - 1,by omega⟩
         rw [show (k:Int) - 1 - q=(m:Int) by omega,show k - q=m+1 by omega]
         have hdl:=fd_ n q p
         generalize hDG:(digs n q p).map (fun x=>D.flat (.int .i64 x))=DG at*
         have hpp:p / n ^ q≤262144:=Nat.le_trans (Nat.div_le_self _ _) (by omega)
         generalize hpq:p / n ^ q=pq at*
         refine DW.walk ?_
         refine⟨q+1,by omega,by omega,?_⟩
         rw [xg_,show (k:Int) - 1 - ((q+1:Nat):Int)=(m:Int) - 1 by omega,show k - (q+1)=m by omega,show (digs n (q+1) p).map (fun x=>D.flat (.int .i64 x))= .flat (.int .i64 ((pq % n:Nat):Int))::DG by rw [nb_,hpq,List.map_cons,hDG],show p / n ^ (q+1)=pq / n by rw [Nat.pow_succ,← Nat.div_div_eq_div_mul,hpq]]
         have hpm:persL (List.replicate m (.flat (.int .i64 0))++ .flat (.int .i64 ((pq % n:Nat):Int))::DG)=true:=cg_ (jk_ rfl) (by rw [← hDG];exact ab_ (((pq % n:Nat):Int)::digs n q p))
         generalize (List.replicate m (.flat (.int .i64 0))++ .flat (.int .i64 ((pq % n:Nat):Int))::DG)=RM at*
         exact Sub.auto
        ·obtain rfl:k=q:=by omega
         rw [show (k:Int) - 1 - k= -1 by omega,Nat.sub_self,List.replicate_zero,List.nil_append]
         have hpl1:=ab_ (digs n k p)
         generalize (digs n k p).map (fun x=>D.flat (.int .i64 x))=DG at*
         clear hqg
         refine DW.walkTo 19 ?_
         refine DW.sub (s':=⟨[(15,.sl false 1 k DG),(14,.flat (.int .i64 ((p:Nat):Int))),(44,.flat (.int .i64 ((p:Nat):Int))),(43,.flat (.int .i64 ((wd:Nat):Int))),(13,.own 105 p),(12,.flat (.int .i64 ((k:Nat):Int))),(11,.flat (.int .i64 ((i:Nat):Int))),(36,.flat (.int .i64 ((i:Nat):Int))),(35,.flat (.int .i64 ((rs.length:Nat):Int))),(34,.sl false 1 rs.length LRS),(9,.ref 9 0),(8,.ref 8 0),(1,.flat (.int .i64 ((n:Nat):Int))),(2,.clo (.func kt) ft ct)],[(105,some (.row 3 1 p R0)),(9,some (.box [.sl false 1 rs.length LRS,.own 103 n,.own 104 i])),(103,some (.row 4 1 n GB)),(104,some (.row 22 1 i GT)),(8,some (.box [.flat (.slice none 0 0),.flat (.slice none 0 0),.flat (.slice none 0 0)]))]⟩) Sub.auto ?_
         refine DW.walk ?_
         rw [hq2]
         exact⟨p+1,by omega,by omega,by rw [hR1];exact Sub.auto⟩
   ·    obtain rfl:wd=p:=by omega
        have hpR:=ab_ ((List.range wd).map fun q=>Tt i (digs n k q))
        simp only [List.length_map,List.length_range] at hsn
        generalize ((List.range wd).map fun q=>Tt i (digs n k q)).map (fun x=>D.flat (.int .i64 x))=R at*
        refine DW.walkTo 21 ?_
        refine DW.sub (s':=⟨[(13,.sl false 1 wd R),(36,.flat (.int .i64 ((i:Nat):Int))),(35,.flat (.int .i64 ((rs.length:Nat):Int))),(34,.sl false 1 rs.length LRS),(9,.ref 9 0),(8,.ref 8 0),(1,.flat (.int .i64 ((n:Nat):Int))),(2,.clo (.func kt) ft ct)],[(9,some (.box [.sl false 1 rs.length LRS,.own 103 n,.own 104 i])),(103,some (.row 4 1 n GB)),(104,some (.row 22 1 i GT)),(8,some (.box [.flat (.slice none 0 0),.flat (.slice none 0 0),.flat (.slice none 0 0)]))]⟩) Sub.auto ?_
        refine DW.walk ?_
        rw [← hsn]
        exact⟨i+1,by omega,by omega,by rw [hGT1];exact Sub.auto⟩
  ·obtain rfl:i=rs.length:=by omega
   rw [List.take_of_length_le (show (ap_ n Tt rs).length≤rs.length by omega)]
   have hpG:=ao_ (ap_ n Tt rs)
   generalize aj_ (ap_ n Tt rs)=GT at*
   refine DW.walk ?_
   exact⟨.inr rfl,ResOk.cellA [(103,some (.row 4 1 n GB)),(104,some (.row 22 1 rs.length GT))] rfl rfl rfl TyI.ag TyI.sz ⟨rfl,rfl,trivial⟩ (.cons (Vw.pers (by first|exact hlrs|(show persL _=true;exact hlrs)|(simp [pers];done)|(simp [pers];exact hlrs))) (.cons (Vw.own (.head _) (VwL.pers hpB)) (.cons (Vw.own (.tail _ (.head _)) (VwL.pers hpG)) .nil))) (Le.refl _)⟩
theorem g8_ (n:Nat) (l:List Int):(ixL n l).length=n:=by simp [ixL]
theorem fh_ {l:List Int} {x:Int}:∀ {j:Nat},x∈l.take j→(l.take j).idxOf x=l.idxOf x:=by
 induction l with
 |nil=>intro j h;simp at h
 |cons   a l ih=>
  intro j h
  cases j with
  |zero=>simp at h
  |succ  j=>
   rw [List.take_succ_cons] at h ⊢
   by_cases e:a=x
   ·subst e;simp
   ·    rw [List.idxOf_cons,List.idxOf_cons,show (a == x)=false by simpa using e,cond_false,cond_false,ih]
        rcases List.mem_cons.1 h with h|h
        ·exact absurd h.symm e
        ·exact h
theorem xu_ {n:Nat} {l:List Int} {j m:Nat} (hnd:l.Nodup) (hj:l[j]?=some (m:Int)) (hm:m<n):spliceD ((ixL n (l.take j)).map fun x=>D.flat (.int .i64 x)) m [.flat (.int .i64 (j:Int))]=(ixL n (l.take (j+1))).map fun x=>D.flat (.int .i64 x):=by
 rw [bi_ (by simp [g8_,hm])]
 refine List.ext_getElem? fun i=>?_
 rw [List.getElem?_set,List.getElem?_map,List.getElem?_map]
 have hlen:=g8_ n (l.take j)
 have hjl:=(List.getElem?_eq_some_iff.1 hj).1
 have htk:l.take (j+1)=l.take j++ [(m:Int)]:=by rw [List.take_add_one,hj];rfl
 have hno:(m:Int) ∉ l.take j:=fun hm'=>by
  have h1:=fh_ hm'
  rw [rk_ l j _ hnd hj] at h1
  have h2:=List.idxOf_lt_length_of_mem hm'
  rw [h1] at h2;simp at h2;omega
 by_cases hi:m=i
 ·subst hi
  rw [if_pos rfl,if_pos (by simp [hlen,hm])]
  have h3:(m:Int)∈l.take (j+1):=by rw [htk];simp
  have h4:=fh_ h3
  rw [rk_ l j _ hnd hj] at h4
  simp [ixL,hm,h3,h4]
 ·rw [if_neg hi]
  by_cases h5:i<n
  ·have  h6:((i:Int)∈l.take (j+1))↔((i:Int)∈l.take j):=by
        rw [htk];simp;intro h;omega
   by_cases h7:(i:Int)∈l.take j
   ·simp [ixL,h5,h7,h6.2 h7,fh_ h7,fh_ (h6.2 h7)]
   ·    have:¬ (i:Int)∈l.take (j+1):=fun h=>h7 (h6.1 h)
        simp [ixL,h5,h7,this]
  ·rw [List.getElem?_eq_none (by rw [g8_];omega),List.getElem?_eq_none (by rw [g8_];omega)]
theorem x4_ (A:Au) (hn:A.f.length≤512) (old:List Int) (hr:∀ s∈old,0≤s∧s<(A.f.length:Int)) (hl:old.length≤512) (s:Nat) (hs:s<old.length):DFun Try.prog 105 [.flat (.int .i64 ((s:Nat):Int)),.ptr (auC A) 0,.ptr [.sl false 1 old.length (old.map fun x=>D.flat (.int .i64 x))] 0] (.flat (.bool (n1_ A old s))):=by
 obtain⟨q,hq⟩:∃ q,old[s]?=some q:=⟨old[s],by simp⟩
 have hqr:=hr q (List.mem_of_getElem? hq)
 obtain⟨m,rfl⟩:=Int.eq_ofNat_of_zero_le hqr.1
 have hm:m<A.f.length:=by omega
 obtain⟨b,hb⟩:∃ b,A.f[m]?=some b:=⟨A.f[m],by simp⟩
 have hp:=an_ hq
 have hp2:=ef_ hb
 have hk:n1_ A old s=b:=by simp [n1_,List.getD,hq,hb]
 rw [hk]
 rw [d1_]
 generalize (A.r.map fun x=>D.flat (.int .i64 x))=LR at*
 generalize (A.f.map fun x=>D.flat (.bool x))=LB at*
 generalize aj_ A.to=LT at*
 generalize (old.map fun x=>D.flat (.int .i64 x))=LO at*
 refine DFun.enterA Try.func105 Try.ntmps105 ?_
 refine DW.walk ?_
 exact⟨.inr rfl,ResOk.one [] rfl rfl trivial (Vw.pers rfl)⟩
theorem xm_ (A:Au) (hok:AuOk A) (old:List Int) (hsh:ShutL A old) (i k:Nat) (ds:List Int) (hk:A.r[i]?=some (k:Int)) (hdl:ds.length=k) (hdr:∀ d∈ds,0≤d∧d<(old.length:Int)):
  DFun Try.prog 104 [.flat (.int .i64 ((i:Nat):Int)),.sl false 1 ds.length (ds.map fun x=>D.flat (.int .i64 x)),.ptr [.sl false 1 old.length (old.map fun x=>D.flat (.int .i64 x))] 0,.ptr [.sl false 1 (ixL A.f.length old).length ((ixL A.f.length old).map fun x=>D.flat (.int .i64 x))] 0,.ptr (auC A) 0] (.flat (.int .i64 (ks_ A old i ds))):=by
 have hfit:=hsh.fits hk (by omega) hdr
 have hat:=acz A hok i _ hfit
 have hmem:=hsh.shut i k ds hk (by omega) hdr
 have hrg:=hsh.rng _ hmem
 have hx:=yy_ (n:=A.f.length) hmem hrg.1 hrg.2
 have hkt:ks_ A old i ds=hasI old (atI A i (ds.map fun d=>old.getD d.toNat 0)):=rfl
 rw [hkt,← hx]
 have hk2:=hok.alpha.rng _ (List.mem_of_getElem? hk)
 have hn:=hok.hi
 have hol:=hsh.hi
 generalize hf:(ds.map (fun d=>old.getD d.toNat 0))=fr at*
 have hfl:fr.length=ds.length:=by rw [← hf];simp
 generalize hy:atI A i fr=y at*
 obtain⟨m,rfl⟩:=Int.eq_ofNat_of_zero_le hrg.1
 have hm:m<A.f.length:=by omega
 have hix:(ixL A.f.length old).length=A.f.length:=by simp [ixL]
 generalize ixL A.f.length old=ix at*
 obtain⟨z,hz⟩:∃ z,ix[m]?=some z:=⟨ix[m],by simp⟩
 have hp:=an_ hz
 rw [show ix.getD (m:Int).toNat 0=z by simp [List.getD,hz]]
 have hpo:∀ (i:Nat) (x:Int),old[i]?=some x→partD false 1 (i*1) (old.map fun x=>D.flat (.int .i64 x))=some (.flat (.int .i64 x)):=fun i x h=>an_ h
 have hpd:∀ (i:Nat) (x:Int),ds[i]?=some x→partD false 1 (i*1) (ds.map fun x=>D.flat (.int .i64 x))=some (.flat (.int .i64 x)):=fun i x h=>an_ h
 have hpf:=fun j=>ab_ (fr.take j)
 have hpfr:=ab_ fr
 rw [d1_]
 rw [a1_] at hat
 generalize (A.r.map fun x=>D.flat (.int .i64 x))=LR at*
 generalize (A.f.map fun x=>D.flat (.bool x))=LB at*
 generalize aj_ A.to=LT at*
 generalize (old.map fun x=>D.flat (.int .i64 x))=LO at*
 generalize (ix.map fun x=>D.flat (.int .i64 x))=LI at*
 generalize (ds.map fun x=>D.flat (.int .i64 x))=LD at*
 clear hx hkt hmem hrg hfit hsh hok hy
 refine DFun.enterA Try.func104 Try.ntmps104 ?_
 refine DW.walk ?_
 refine DW.adopt 8 108 3 1 rfl rfl ?_
 refine DW.loopA (fun j:Nat=>⟨[(0,.flat (.int .i64 ((i:Nat):Int))),(2,.ptr [.sl false 1 old.length LO] 0),(3,.ptr [.sl false 1 ix.length LI] 0),(4,.ptr [.sl false 1 A.r.length LR,.sl false 1 A.f.length LB,.sl false 1 A.to.length LT] 0),(8,.own 108 j),(11,.sl false 1 ds.length LD),(12,.flat (.int .i64 ((ds.length:Nat):Int))),(13,.flat (.int .i64 ((j:Nat):Int)))],[(108,some (.row 3 1 j ((fr.take j).map fun x=>D.flat (.int .i64 x))))]⟩) (fun j=>j≤ds.length) (fun j=>ds.length - j) 0 ?_ (by omega)
 intro j hj
 rcases Nat.lt_or_ge j ds.length with hlt|hge
 ·obtain⟨d,hd⟩:∃ d,ds[j]?=some d:=⟨ds[j],by simp⟩
  have hdr2:=hdr d (List.mem_of_getElem? hd)
  obtain⟨e,rfl⟩:=Int.eq_ofNat_of_zero_le hdr2.1
  have he:e<old.length:=by omega
  obtain⟨q,hq⟩:∃ q,old[e]?=some q:=⟨old[e],by simp⟩
  have hfj:fr[j]?=some q:=by rw [← hf,List.getElem?_map,hd];simp [List.getD,hq]
  have hp1:=hpd j _ hd
  have hp2:=hpo e _ hq
  have hrow:(fr.take j).map (fun x=>D.flat (.int .i64 x))++ [.flat (.int .i64 q)]=(fr.take (j+1)).map (fun x=>D.flat (.int .i64 x)):=by rw [List.take_add_one,hfj];simp
  have q1:=hpf j
  have q2:=hpf (j+1)
  generalize hF1:(fr.take (j+1)).map (fun x=>D.flat (.int .i64 x))=F1 at*
  generalize hF0:(fr.take j).map (fun x=>D.flat (.int .i64 x))=F0 at*
  clear hpd hpo hat hdr hpf hpfr hf
  refine DW.walk ?_
  rw [hrow]
  exact⟨j+1,by omega,by omega,by rw [hF1];exact Sub.auto⟩
 ·have hje:j=ds.length:=by omega
  subst hje
  rw [List.take_of_length_le (by omega)]
  generalize (fr.map fun x=>D.flat (.int .i64 x))=LF at*
  clear hpd hpo hdr hpf hf
  rw [← hfl]
  refine DW.sub (s':=⟨[(0,.flat (.int .i64 ((i:Nat):Int))),(2,.ptr [.sl false 1 old.length LO] 0),(3,.ptr [.sl false 1 ix.length LI] 0),(4,.ptr [.sl false 1 A.r.length LR,.sl false 1 A.f.length LB,.sl false 1 A.to.length LT] 0),(8,.sl false 1 fr.length LF),(12,.flat (.int .i64 ((fr.length:Nat):Int))),(13,.flat (.int .i64 ((fr.length:Nat):Int)))],[]⟩) Sub.auto ?_
  refine DW.walk ?_
  exact⟨.inr rfl,ResOk.one [] rfl rfl trivial (Vw.pers rfl)⟩
theorem aaw (A:Au) (hok:AuOk A) (old:List Int) (hsh:ShutL A old):DFun Try.prog 69 [auD A,.sl false 1 old.length (old.map fun x=>D.flat (.int .i64 x))] (auD (c6_ A old)):=by
 have hn:=hok.hi
 have hol:=hsh.hi
 have hpos:=hsh.pos
 have hal:=hok.alpha
 have hz:List.replicate A.f.length (D.flat (.int .i64 0))=(ixL A.f.length (old.take 0)).map fun x=>D.flat (.int .i64 x):=by
  refine List.ext_getElem? fun i=>?_
  rw [List.getElem?_map]
  by_cases hi:i<A.f.length
  ·simp [ixL,hi]
  ·rw [List.getElem?_eq_none (by simp;omega),List.getElem?_eq_none (by rw [g8_];omega)];rfl
 have hm:=abi A.r old.length (ks_ A old) (n1_ A old) 104 105 [] [.ptr [.sl false 1 old.length (old.map fun x=>D.flat (.int .i64 x))] 0,.ptr [.sl false 1 (ixL A.f.length old).length ((ixL A.f.length old).map fun x=>D.flat (.int .i64 x))] 0,.ptr (auC A) 0] [] [.ptr (auC A) 0,.ptr [.sl false 1 old.length (old.map fun x=>D.flat (.int .i64 x))] 0] hal.hi hal.rng hol hpos EntC.h EntC.h
  (by simp [persL,pers,ab_,al_,ao_,d1_]) (by simp [persL,pers,ab_,al_,ao_,d1_]) (fun i k l=>by have:=ab_ l;simp [persL,pers,this,ab_,al_,ao_,d1_]) (fun s=>by simp [persL,pers,ab_,al_,ao_,d1_])
  (fun i k p hk hp=>by
   have h:=xm_ A hok old hsh i k _ hk (fd_ _ _ _) (hk_ hpos k p)
   rw [fd_] at h
   exact h) (fun s hs=>x4_ A hn old hsh.rng hol s hs)
 have hpo:∀ (i:Nat) (x:Int),old[i]?=some x→partD false 1 (i*1) (old.map fun x=>D.flat (.int .i64 x))=some (.flat (.int .i64 x)):=fun i x h=>an_ h
 have hlen:∀ j,((ixL A.f.length (old.take j)).map fun x=>D.flat (.int .i64 x)).length=A.f.length:=fun j=>by simp [g8_]
 have hpx:=fun j=>ab_ (ixL A.f.length (old.take j))
 have hpx1:=ab_ (ixL A.f.length old)
 have hset:∀ (j m:Nat),old[j]?=some (m:Int)→m<A.f.length→spliceD ((ixL A.f.length (old.take j)).map fun x=>D.flat (.int .i64 x)) m [.flat (.int .i64 ((j:Nat):Int))]=(ixL A.f.length (old.take (j+1))).map fun x=>D.flat (.int .i64 x):=fun j m h1 h2=>xu_ hsh.nd h1 h2
 have hrg:=hsh.rng
 have hpr:=ab_ A.r
 have hpb:=al_ A.f
 have hpt:=ao_ A.to
 have hpold:=ab_ old
 have hixl:(ixL A.f.length old).length=A.f.length:=by simp [ixL]
 rw [show c6_ A old=d7_ A.r old.length (ks_ A old) (n1_ A old) from rfl]
 generalize d7_ A.r old.length (ks_ A old) (n1_ A old)=Mk at*
 have hq1:=ab_ Mk.r
 have hq2:=al_ Mk.f
 have hq3:=ao_ Mk.to
 rw [a1_ A,a1_ Mk]
 rw [d1_,a1_ Mk] at hm
 generalize (Mk.r.map fun x=>D.flat (.int .i64 x))=MR at*
 generalize (Mk.f.map fun x=>D.flat (.bool x))=MB at*
 generalize aj_ Mk.to=MT at*
 generalize (A.r.map fun x=>D.flat (.int .i64 x))=LR at*
 generalize (A.f.map fun x=>D.flat (.bool x))=LB at*
 generalize aj_ A.to=LT at*
 generalize (old.map fun x=>D.flat (.int .i64 x))=LO at*
 clear hsh hok hal
 refine DFun.enterA Try.func69 Try.ntmps69 ?_
 refine DW.walk ?_
 refine DW.loopA (fun j:Nat=>⟨[(2,.ptr [.sl false 1 A.r.length LR,.sl false 1 A.f.length LB,.sl false 1 A.to.length LT] 0),(3,.ptr [.sl false 1 old.length LO] 0),(4,.ref 4 0),(5,.ref 5 0),(12,.sl false 1 old.length LO),(13,.flat (.int .i64 ((old.length:Nat):Int))),(14,.flat (.int .i64 ((j:Nat):Int)))],[(4,some (.box [.flat (.slice none 0 0),.flat (.slice none 0 0),.flat (.slice none 0 0)])),(5,some (.box [.own 11 A.f.length])),(11,some (.row 3 1 A.f.length ((ixL A.f.length (old.take j)).map fun x=>D.flat (.int .i64 x))))]⟩) (fun j=>j≤old.length) (fun j=>old.length - j) 0 ?_ (Nat.zero_le _) (by have hp0:=hpx 0;rw [← hz] at hp0 ⊢;generalize (List.replicate A.f.length (D.flat (.int .i64 0)))=RZ at *;exact Sub.auto)
 intro j hj
 rcases Nat.lt_or_ge j old.length with hlt|hge
 ·obtain⟨q,hq⟩:∃ q,old[j]?=some q:=⟨old[j],by simp⟩
  have hqr:=hrg q (List.mem_of_getElem? hq)
  obtain⟨m,rfl⟩:=Int.eq_ofNat_of_zero_le hqr.1
  have hm2:m<A.f.length:=by omega
  have hp:=hpo j _ hq
  have hs:=hset j m hq hm2
  unfold spliceD at hs
  have q0:=hlen j
  have q1:=hpx j
  have q2:=hpx (j+1)
  generalize hX1:((ixL A.f.length (old.take (j+1))).map fun x=>D.flat (.int .i64 x))=X1 at*
  generalize hX0:((ixL A.f.length (old.take j)).map fun x=>D.flat (.int .i64 x))=X0 at*
  clear hm hpo hset hlen hpx hrg hz
  have hs1:List.take (m*1) X0++ [.flat (.int .i64 ((j:Nat):Int))]++List.drop (m*1+1) X0=X1:=by rw [Nat.mul_one];exact hs
  refine DW.walk ?_
  rw [hs1]
  exact⟨j+1,by omega,by omega,by rw [hX1];exact Sub.auto⟩
 ·have hje:j=old.length:=by omega
  subst hje
  rw [List.take_length]
  generalize ((ixL A.f.length old).map fun x=>D.flat (.int .i64 x))=X1 at*
  clear hpo hset hlen hpx hrg hz
  refine DW.walkTo 7 ?_
  refine DW.sub (s':=⟨[(2,.ptr [.sl false 1 A.r.length LR,.sl false 1 A.f.length LB,.sl false 1 A.to.length LT] 0),(3,.ptr [.sl false 1 old.length LO] 0),(4,.ref 4 0),(5,.ref 5 0)],[(4,some (.box [.flat (.slice none 0 0),.flat (.slice none 0 0),.flat (.slice none 0 0)])),(5,some (.box [.sl false 1 A.f.length X1]))]⟩) Sub.auto ?_
  refine DW.sub (s':=⟨[(2,.ptr [.sl false 1 A.r.length LR,.sl false 1 A.f.length LB,.sl false 1 A.to.length LT] 0),(3,.ptr [.sl false 1 old.length LO] 0),(4,.ref 4 0),(5,.ptr [.sl false 1 A.f.length X1] 0)],[(4,some (.box [.flat (.slice none 0 0),.flat (.slice none 0 0),.flat (.slice none 0 0)]))]⟩) Sub.auto ?_
  rw [hixl] at hm
  refine DW.walk ?_
  exact⟨.inr rfl,ResOk.cellA [] rfl rfl rfl TyI.ag TyI.sz trivial (VwL.pers (by simp [persL,pers,hq1,hq2,hq3])) (Le.refl _)⟩
theorem yz_ (A:Au) (hA:Few A):DFun Try.prog 34 [auD A] (.tup [auD (uk_ A).1,.flat (.int .i64 (((uk_ A).2:Nat):Int))]):=by
 have hc:=fy_ A hA
 by_cases hk:chk A=0
 ·rw [hk] at hc
  rw [p5_ hk]
  have hok:=a6_ hk
  have hf:=s3_ A hok
  have hs:=aaw A hok (ad_ A) (hw_ hok (k6_ hk))
  show DFun Try.prog 34 _ (.tup [auD (c6_ A (ad_ A)),.flat (.int .i64 ((0:Nat):Int))])
  have hfp:=ab_ (ad_ A)
  generalize c6_ A (ad_ A)=Mk at*
  generalize ad_ A=fo at*
  have q1:=ab_ A.r
  have q2:=al_ A.f
  have q3:=ao_ A.to
  have m1:=ab_ Mk.r
  have m2:=al_ Mk.f
  have m3:=ao_ Mk.to
  rw [a1_ Mk] at*
  rw [a1_ A] at*
  generalize (A.r.map fun x=>D.flat (.int .i64 x))=LR at*
  generalize (A.f.map fun x=>D.flat (.bool x))=LB at*
  generalize aj_ A.to=LT at*
  generalize (Mk.r.map fun x=>D.flat (.int .i64 x))=MR at*
  generalize (Mk.f.map fun x=>D.flat (.bool x))=MB at*
  generalize aj_ Mk.to=MT at*
  generalize (fo.map fun x=>D.flat (.int .i64 x))=LF at*
  refine DFun.enterA Try.func34 Try.ntmps34 ?_
  refine DW.walk ?_
  exact⟨.inr rfl,ResOk.cellTmpA [] rfl rfl rfl TyI.ag TyI.sz rfl trivial (VwL.pers (by simp [persL,pers,m1,m2,m3])) (Le.refl _) (Vw.pers rfl)⟩
 ·have hne:((chk A:Nat):Int)≠0:=by omega
  rw [sd_ hk]
  show DFun Try.prog 34 _ (.tup [.agg [.sl false 1 0 [],.sl false 1 0 [],.sl false 1 0 []],.flat (.int .i64 ((chk A:Nat):Int))])
  generalize chk A=ck at*
  have q1:=ab_ A.r
  have q2:=al_ A.f
  have q3:=ao_ A.to
  rw [a1_] at*
  generalize (A.r.map fun x=>D.flat (.int .i64 x))=LR at*
  generalize (A.f.map fun x=>D.flat (.bool x))=LB at*
  generalize aj_ A.to=LT at*
  refine DFun.enterA Try.func34 Try.ntmps34 ?_
  refine DW.walk ?_
  exact⟨.inr rfl,ResOk.cellTmpA [] rfl rfl rfl TyI.ag TyI.sz rfl trivial (.cons (Vw.p rfl Le.empty) (.cons (Vw.p rfl Le.empty) (.cons (Vw.p rfl Le.empty) .nil))) (Le.refl _) (Vw.pers rfl)⟩
end Go.Proofs.Ytichhfbkhnimmaa
namespace Go.Proofs.Ytichhfbkhnimmaa
open Go Go.RowKit Go.PP Go.Dm Go.Rt Go.Mn
theorem yf_ {w0 w:World} {M0:Nat→Prop} {B0:Bd} {N:Nat} {g:Gh} {f:Fr} {σ σ':Sg} {a:Act} (h:∀ id,lkE σ id=lkE σ' id) (hs:StG w0 M0 B0 N g ⟨f,σ⟩ a w):StG w0 M0 B0 N g ⟨f,σ'⟩ a w:=by
 have hb:∀ id,blkOf g σ' id=blkOf g σ id:=fun id=>by unfold blkOf;rw [h]
 have hM:Mx M0 g σ'=Mx M0 g σ:=by funext b;unfold Mx;simp only [hb]
 have hG:GrowO (some (g,σ)) (some (g,σ')):=⟨fun id cs q=>⟨⟨cs,by rw [← h];exact q⟩,rfl⟩,fun id e n len cs q=> .inr ⟨e,n,len,cs,by rw [← h];exact q,Nat.le_refl _,fun _=>rfl⟩,fun id q=>by rw [← h];exact q⟩
 have hr:∀ d v,Rep (Mx M0 g σ) w (some (g,σ)) d v→Rep (Mx M0 g σ) w (some (g,σ')) d v:=fun d v q=>Rep.step hG (Mut.refl (fun _=>False) w) (fun _ _ e=>e.elim) (fun _ _ q=>q) d v q
 have hrl:∀ d v,RepL (Mx M0 g σ) w (some (g,σ)) d v→RepL (Mx M0 g σ) w (some (g,σ')) d v:=fun d v q=>RepL.step hG (Mut.refl (fun _=>False) w) (fun _ _ e=>e.elim) (fun _ _ q=>q) d v q
 refine⟨hs.chg,hs.m0,?_,hs.sz,fun t=>by show Rep (Mx M0 g σ') w _ _ _;rw [hM];exact hr _ _ (hs.tm t),fun id e he=>?_,fun id id' b q1 q2=>hs.sep id id' b (by rw [← hb];exact q1) (by rw [← hb];exact q2),fun id b q=>hs.new id b (by rw [← hb];exact q),fun id=>⟨fun cs q=>(hs.anc id).1 cs (by rw [h];exact q),fun e n len cs q=>(hs.anc id).2 e n len cs (by rw [h];exact q)⟩,hs.glo⟩
 ·obtain⟨Ds,h1,h2,h3⟩:=hs.df
  exact⟨Ds,h1,h2,fun D hD=>⟨(h3 D hD).1,fun id q=>(h3 D hD).2 id (by rw [← hb];exact q)⟩⟩
 ·have h0:=hs.ent id e (by show lkE σ id=_;rw [h];exact he)
  show EntOk (Mx M0 g σ') w g σ' id e
  rw [hM]
  cases e with
  |box cs=>obtain⟨vs,o,q1,q2,q3⟩:=h0;exact⟨vs,o,q1,hrl _ _ q2,q3⟩
  |row e n len cs=>obtain⟨vs,q1,q2⟩:=h0;exact⟨vs,q1,hrl _ _ q2⟩
  |dead=>trivial
theorem wo_ {σ:Sg}:∀ {pe:List (Nat × Option Ent)},Ens σ pe→ ∀ id e,fnd pe id=some e→lkE σ id=e
 | [],_,id,e,h=>by simp [fnd] at h
 |p::r,hE,id,e,h=>by
  simp only [fnd] at h
  by_cases q:p.1=id
  ·subst q
   simp at h
   rw [← h];exact hE.1
  ·rw [show (p.1 == id)=false by simpa using q] at h
   exact wo_ hE.2 id e h
theorem r0_ {P:Program} {N:Nat} {o:Oper} {pf:List (Operand × D)} {pe:List (Nat × Option Ent)} {d:D} (h:Tri P N o pf pe d pe):Tri P N o pf pe d []:=by
 refine⟨fun w0 M0 B0 s a w next Q h1 h2 hd hst hk=>h.go w0 M0 B0 s a w next Q h1 h2 hd hst fun a' w' ⟨g,hg⟩=>hk a' w' ⟨g,yf_ (fun id=>?_) hg⟩⟩
 rw [eq_]
 cases hf:fnd pe id with
 |none=>rfl
 |some e=>exact (wo_ h2 id e hf).symm
structure Flat (U:List Int):Prop where
 at_:∀ (a:Nat) (x:Int),U[a]?=some x→ ∃ m:Nat,x=(m:Int)∧m≤a∧U[m]?=some (m:Int)
theorem sc_ (U:List Int):DLend Try.prog 17 [.ref 225626701274425600001 0] [(225626701274425600001,some (.box [.own 225626701274425600002 U.length])),(225626701274425600002,some (.row 3 1 U.length (U.map fun x=>D.flat (.int .i64 x))))] [(225626701274425600001,some (.box [.own 225626701274425600002 U.length])),(225626701274425600002,some (.row 3 1 U.length (U.map fun x=>D.flat (.int .i64 x))))] (.flat (.int .i64 ((U.length:Nat):Int))):=by
 have hp:=ab_ U
 have ho:=c0_ U
 generalize (U.map fun x=>D.flat (.int .i64 x))=LU at*
 refine DLend.enterA Try.func17 Try.ntmps17 ?_
 refine DW.walk ?_
 exact⟨.inr rfl,ResL.oneA⟩
theorem kl_ (U:List Int) (a:Int):DLend Try.prog 52 [.ref 225626701274425600001 0,.flat (.int .i64 a)] [(225626701274425600001,some (.box [.own 225626701274425600002 U.length])),(225626701274425600002,some (.row 3 1 U.length (U.map fun x=>D.flat (.int .i64 x))))] [(225626701274425600001,some (.box [.own 225626701274425600002 U.length])),(225626701274425600002,some (.row 3 1 U.length (U.map fun x=>D.flat (.int .i64 x))))] (.flat (.bool (decide (0≤a∧a<(U.length:Int))))):=by
 have hp:=ab_ U
 have ho:=c0_ U
 generalize (U.map fun x=>D.flat (.int .i64 x))=LU at*
 by_cases h0:0≤a
 ·rw [show decide (0≤a∧a<(U.length:Int))=decide (a<(U.length:Int)) by simp [h0]]
  refine DLend.enterA Try.func52 Try.ntmps52 ?_
  refine DW.walk ?_
  exact⟨.inr rfl,ResL.oneA⟩
 ·rw [show decide (0≤a∧a<(U.length:Int))=false by simp [h0]]
  refine DLend.enterA Try.func52 Try.ntmps52 ?_
  refine DW.walk ?_
  exact⟨.inr rfl,ResL.oneA⟩
theorem pn_ (U:List Int) (hU:U.length≤1000000) (a:Nat) (h:U[a]?=some (a:Int)):DLend Try.prog 97 [.flat (.int .i64 ((a:Nat):Int)),.ref 6871947673600001 0,.ref 6871947673600002 0] [(225626701274425600001,some (.box [.own 225626701274425600002 U.length])),(225626701274425600002,some (.row 3 1 U.length (U.map fun x=>D.flat (.int .i64 x)))),(6871947673600001,some (.box [.ref 225626701274425600001 0])),(6871947673600002,some (.box [.clo (.func 97) [] [.ref 6871947673600001 0,.ref 6871947673600002 0]]))] [(225626701274425600001,some (.box [.own 225626701274425600002 U.length])),(225626701274425600002,some (.row 3 1 U.length (U.map fun x=>D.flat (.int .i64 x)))),(6871947673600001,some (.box [.ref 225626701274425600001 0])),(6871947673600002,some (.box [.clo (.func 97) [] [.ref 6871947673600001 0,.ref 6871947673600002 0]]))] (.flat (.int .i64 ((a:Nat):Int))):=by
 have hp:=ab_ U
 have ho:=c0_ U
 have hq:=an_ h
 have ha:=(List.getElem?_eq_some_iff.1 h).1
 have hl:(U.map fun x=>D.flat (.int .i64 x)).length=U.length:=by simp
 generalize (U.map fun x=>D.flat (.int .i64 x))=LU at*
 refine DLend.enterA Try.func97 Try.ntmps97 ?_
 refine DW.walk ?_
 exact⟨.inr rfl,ResL.oneA⟩
end Go.Proofs.Ytichhfbkhnimmaa
