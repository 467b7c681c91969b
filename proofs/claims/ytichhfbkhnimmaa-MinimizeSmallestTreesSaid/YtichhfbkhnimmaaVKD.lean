/- Contracts over data: partitions, second part. No condition. -/
import Derived.Test.YtichhfbkhnimmaaVPA
import Derived.DeepKeys4
import Derived.Maps.Keyed
set_option linter.unusedSimpArgs false
set_option linter.unusedVariables false
set_option maxHeartbeats 4000000
set_option maxRecDepth 8000
namespace Go.Proofs.Ytichhfbkhnimmaa
open Go Go.RowKit Go.PP Go.Dm Go.Rt Go.Mn
theorem u8_ (U:List Int) (hf:Flat U) (hU:U.length≤1000000) (a m:Nat) (h:U[a]?=some (m:Int)):DLend Try.prog 97 [.flat (.int .i64 ((a:Nat):Int)),.ref 6871947673600001 0,.ref 6871947673600002 0] [(225626701274425600001,some (.box [.own 225626701274425600002 U.length])),(225626701274425600002,some (.row 3 1 U.length (U.map fun x=>D.flat (.int .i64 x)))),(6871947673600001,some (.box [.ref 225626701274425600001 0])),(6871947673600002,some (.box [.clo (.func 97) [] [.ref 6871947673600001 0,.ref 6871947673600002 0]]))] [(225626701274425600001,some (.box [.own 225626701274425600002 U.length])),(225626701274425600002,some (.row 3 1 U.length (U.map fun x=>D.flat (.int .i64 x)))),(6871947673600001,some (.box [.ref 225626701274425600001 0])),(6871947673600002,some (.box [.clo (.func 97) [] [.ref 6871947673600001 0,.ref 6871947673600002 0]]))] (.flat (.int .i64 ((m:Nat):Int))):=by
 obtain⟨m2,hm,hma,hmm⟩:=hf.at_ a _ h
 have hm:m2=m:=by omega
 subst hm
 by_cases e:m2=a
 ·subst e
  exact pn_ U hU m2 h
 ·have   hr:=fun _:Unit=>pn_ U hU m2 hmm
  have hp:=ab_ U
  have ho:=c0_ U
  have hq:=an_ h
  have ha:=(List.getElem?_eq_some_iff.1 h).1
  have hl:(U.map fun x=>D.flat (.int .i64 x)).length=U.length:=by simp
  have   hset:List.take (a*1) (U.map fun x=>D.flat (.int .i64 x))++ [.flat (.int .i64 ((m2:Nat):Int))]++List.drop (a*1+1) (U.map fun x=>D.flat (.int .i64 x))=U.map fun x=>D.flat (.int .i64 x):=by
   have h1:=bi_ (x:= .flat (.int .i64 ((m2:Nat):Int))) (show a<(U.map fun x=>D.flat (.int .i64 x)).length by omega)
   unfold spliceD at h1
   rw [Nat.mul_one]
   refine h1.trans (List.ext_getElem? fun j=>?_)
   rw [List.getElem?_set]
   split
   ·    rename_i e1
        subst e1
        rw [if_pos (by omega),List.getElem?_map,h];rfl
   ·rfl
  clear h hmm hf
  generalize (U.map fun x=>D.flat (.int .i64 x))=LU at*
  refine DLend.enterA Try.func97 Try.ntmps97 ?_
  have hq2:partD false 1 (a*1) (List.take (a*1) LU++ [.flat (.int .i64 ((m2:Nat):Int))]++List.drop (a*1+1) LU)=some (.flat (.int .i64 ((m2:Nat):Int))):=by rw [hset];exact hq
  refine DW.walk ?_
  refine DC.t (r0_ (T.lendCA (ar:=[_]) (ds:=[_]) EntC.h (hr ()) rfl VlL.auto rfl (by first|rfl|decide +kernel) EsL.auto)) ⟨rfl,rfl,trivial⟩ (by repeat (first|exact trivial|refine⟨rfl,?_⟩)) ?_
  refine DC.walk ?_
  rw [hset]
  exact⟨.inr rfl,ResL.oneA⟩
theorem im_ (U:List Int) (hf:Flat U) (hU:U.length≤1000000) (a m:Nat) (h:U[a]?=some (m:Int)):DLend Try.prog 53 [.ref 225626701274425600001 0,.flat (.int .i64 ((a:Nat):Int))] [(225626701274425600001,some (.box [.own 225626701274425600002 U.length])),(225626701274425600002,some (.row 3 1 U.length (U.map fun x=>D.flat (.int .i64 x))))] [(225626701274425600001,some (.box [.own 225626701274425600002 U.length])),(225626701274425600002,some (.row 3 1 U.length (U.map fun x=>D.flat (.int .i64 x))))] (.flat (.int .i64 ((m:Nat):Int))):=by
 have hx:=u8_ U hf hU a m h
 have hp:=ab_ U
 have ho:=c0_ U
 have h2:=IdAt.of 2 6871947673600001
 have h5:=IdAt.of 5 6871947673600002
 clear h hf
 generalize (U.map fun x=>D.flat (.int .i64 x))=LU at*
 refine DLend.enterA Try.func53 Try.ntmps53 ?_
 refine DW.walk ?_
 exact⟨.inr rfl,ResL.oneA⟩
theorem w8_ (U:List Int) (hf:Flat U) (hU:U.length≤1000000) (a b ma mb:Nat) (h1:U[a]?=some (ma:Int)) (h2:U[b]?=some (mb:Int)) (hle:ma≤mb):
  DLend Try.prog 120 [.ref 225626701274425600001 0,.flat (.int .i64 ((a:Nat):Int)),.flat (.int .i64 ((b:Nat):Int))] [(225626701274425600001,some (.box [.own 225626701274425600002 U.length])),(225626701274425600002,some (.row 3 1 U.length (U.map fun x=>D.flat (.int .i64 x))))] [(225626701274425600001,some (.box [.own 225626701274425600002 U.length])),(225626701274425600002,some (.row 3 1 U.length ((U.set mb (ma:Int)).map fun x=>D.flat (.int .i64 x))))] (.flat (.bool (decide ((ma:Int)≠(mb:Int))))):=by
 have x1:=im_ U hf hU a ma h1
 have x2:=im_ U hf hU b mb h2
 obtain⟨m2,e2,hm2,hmm⟩:=hf.at_ b _ h2
 have hbl:=(List.getElem?_eq_some_iff.1 h2).1
 have hal:=(List.getElem?_eq_some_iff.1 h1).1
 have hml:mb<U.length:=by omega
 have hp:=ab_ U
 have ho:=c0_ U
 have hl:(U.map fun x=>D.flat (.int .i64 x)).length=U.length:=by simp
 have hset:List.take (mb*1) (U.map fun x=>D.flat (.int .i64 x))++ [.flat (.int .i64 ((ma:Nat):Int))]++List.drop (mb*1+1) (U.map fun x=>D.flat (.int .i64 x))=((U.set mb (ma:Int)).map fun x=>D.flat (.int .i64 x)):=by
  have h1:=bi_ (x:= .flat (.int .i64 ((ma:Nat):Int))) (show mb<(U.map fun x=>D.flat (.int .i64 x)).length by omega)
  unfold spliceD at h1
  rw [Nat.mul_one]
  rw [List.map_set]
  exact h1
 have hp2:=ab_ (U.set mb (ma:Int))
 generalize ((U.set mb (ma:Int)).map fun x=>D.flat (.int .i64 x))=LV at*
 generalize (U.map fun x=>D.flat (.int .i64 x))=LU at*
 have hmx:(if (mb:Int)>(ma:Int) then (mb:Int) else (ma:Int))=(mb:Int):=by split <;> omega
 have hmn:(if (mb:Int)<(ma:Int) then (mb:Int) else (ma:Int))=(ma:Int):=by split <;> omega
 clear h1 h2 hf e2 hm2 hmm
 refine DLend.enterA Try.func120 Try.ntmps120 ?_
 refine DW.walk ?_
 rw [hset]
 exact⟨.inr rfl,ResL.oneA⟩
theorem vl_ (U:List Int) (hf:Flat U) (hU:U.length≤1000000) (a b ma mb:Nat) (h1:U[a]?=some (ma:Int)) (h2:U[b]?=some (mb:Int)) (hle:ma≤mb):
  DLend Try.prog 93 [.ref 225626701274425600001 0,.flat (.int .i64 ((a:Nat):Int)),.flat (.int .i64 ((b:Nat):Int))] [(225626701274425600001,some (.box [.own 225626701274425600002 U.length])),(225626701274425600002,some (.row 3 1 U.length (U.map fun x=>D.flat (.int .i64 x))))] [(225626701274425600001,some (.box [.own 225626701274425600002 U.length])),(225626701274425600002,some (.row 3 1 U.length ((U.set mb (ma:Int)).map fun x=>D.flat (.int .i64 x))))] (.tup [.flat (.bool (decide ((ma:Int)≠(mb:Int)))),.flat (.int .i64 0)]):=by
 have hj:=w8_ U hf hU a b ma mb h1 h2 hle
 have t1:=kl_ U a
 have t2:=kl_ U b
 have hbl:=(List.getElem?_eq_some_iff.1 h2).1
 have hal:=(List.getElem?_eq_some_iff.1 h1).1
 rw [decide_eq_true (by omega)] at t1 t2
 have hp:=ab_ U
 have hp2:=ab_ (U.set mb (ma:Int))
 generalize ((U.set mb (ma:Int)).map fun x=>D.flat (.int .i64 x))=LV at*
 generalize (U.map fun x=>D.flat (.int .i64 x))=LU at*
 clear h1 h2 hf
 refine DLend.enterA Try.func93 Try.ntmps93 ?_
 refine DW.walk ?_
 exact⟨.inr rfl,ResL.twoA⟩
theorem sz_ (U:List Int) (hf:Flat U) (hU:U.length≤1000000) (a ma:Nat) (h1:U[a]?=some (ma:Int)):
  DLend Try.prog 18 [.ref 225626701274425600001 0,.flat (.int .i64 ((a:Nat):Int))] [(225626701274425600001,some (.box [.own 225626701274425600002 U.length])),(225626701274425600002,some (.row 3 1 U.length (U.map fun x=>D.flat (.int .i64 x))))] [(225626701274425600001,some (.box [.own 225626701274425600002 U.length])),(225626701274425600002,some (.row 3 1 U.length (U.map fun x=>D.flat (.int .i64 x))))] (.tup [.flat (.int .i64 ((ma:Nat):Int)),.flat (.int .i64 0)]):=by
 have hh:=im_ U hf hU a ma h1
 have t1:=kl_ U a
 have hal:=(List.getElem?_eq_some_iff.1 h1).1
 rw [decide_eq_true (by omega)] at t1
 have hp:=ab_ U
 generalize (U.map fun x=>D.flat (.int .i64 x))=LU at*
 clear h1 hf
 refine DLend.enterA Try.func18 Try.ntmps18 ?_
 refine DW.walk ?_
 exact⟨.inr rfl,ResL.twoA⟩
def el_ (n j:Nat):List Int:=((List.range j).map fun (i:Nat)=>(i:Int))++List.replicate (n - j) 0
theorem ja_ {n j:Nat} (h:j≤n):(el_ n j).length=n:=by simp [el_];omega
def idU (n:Nat):List Int:=(List.range n).map fun (i:Nat)=>(i:Int)
theorem rp_ (n:Nat):el_ n n=idU n:=by simp [el_,idU]
theorem qq_ (n:Nat):el_ n 0=List.replicate n 0:=by simp [el_]
theorem qv_ {n j:Nat} (h:j<n):(el_ n j).set j (j:Int)=el_ n (j+1):=by
 refine List.ext_getElem? fun i=>?_
 have hl:=ja_ (n:=n) (j:=j) (by omega)
 rw [List.getElem?_set,hl]
 by_cases e:j=i
 ·subst e
  rw [if_pos rfl,if_pos h]
  unfold el_
  rw [List.getElem?_append_left (by simp)]
  simp
 ·rw [if_neg e]
  unfold el_
  by_cases e2:i<j
  ·rw [List.getElem?_append_left (by simp;omega),List.getElem?_append_left (by simp;omega)]
   simp [e2,show i<j+1 by omega]
  ·rw [List.getElem?_append_right (by simp;omega),List.getElem?_append_right (by simp;omega)]
   simp only [List.length_map,List.length_range,List.getElem?_replicate]
   by_cases e3:i<n
   ·rw [if_pos (by omega),if_pos (by omega)]
   ·rw [if_neg (by omega),if_neg (by omega)]
theorem tv_ {n j:Nat} (h:j<n):List.take (j*1) ((el_ n j).map fun x=>D.flat (.int .i64 x))++ [.flat (.int .i64 ((j:Nat):Int))]++List.drop (j*1+1) ((el_ n j).map fun x=>D.flat (.int .i64 x))=((el_ n (j+1)).map fun x=>D.flat (.int .i64 x)):=by
 have hl:=ja_ (n:=n) (j:=j) (by omega)
 have h1:=bi_ (x:= .flat (.int .i64 ((j:Nat):Int))) (show j<(((el_ n j).map fun x=>D.flat (.int .i64 x))).length by simp [hl,h])
 unfold spliceD at h1
 rw [Nat.mul_one,← qv_ h,List.map_set]
 exact h1
theorem ace (n:Nat) (hn:n≤4096):DLend Try.prog 92 [.flat (.int .i64 ((n:Nat):Int))] [(225626701274425600001,none),(225626701274425600002,none)] [(225626701274425600001,some (.box [.own 225626701274425600002 n])),(225626701274425600002,some (.row 3 1 n ((idU n).map fun x=>D.flat (.int .i64 x))))] (.tup [.ref 225626701274425600001 0,.flat (.int .i64 0)]):=by
 have h1:=IdAt.of 13 225626701274425600002
 have h2:=IdAt.of 15 225626701274425600001
 have hz:List.replicate n (D.flat (.int .i64 0))=((el_ n 0).map fun x=>D.flat (.int .i64 x)):=by rw [qq_];simp
 have hset:=fun j (h:j<n)=>tv_ h
 have hlen:=fun j (h:j≤n)=>ja_ h
 have hp:=fun j=>ab_ (el_ n j)
 refine DLend.enterA Try.func92 Try.ntmps92 ?_
 refine DW.walk ?_
 refine DW.loopA (fun j:Nat=>⟨[(4,.ref 225626701274425600001 0),(16,.flat (.int .i64 ((n:Nat):Int))),(17,.flat (.int .i64 ((j:Nat):Int)))],[(225626701274425600001,some (.box [.own 225626701274425600002 n])),(225626701274425600002,some (.row 3 1 n ((el_ n j).map fun x=>D.flat (.int .i64 x))))]⟩) (fun j=>j≤n) (fun j=>n - j) 0 ?_ (Nat.zero_le _) (by have hp0:=hp 0;rw [← hz] at hp0 ⊢;generalize (List.replicate n (D.flat (.int .i64 0)))=RZ at *;exact Sub.auto)
 intro j hj
 rcases Nat.lt_or_ge j n with hlt|hge
 ·have hs:=hset j hlt
  have hl:=hlen j hj
  have hl2:(((el_ n j).map fun x=>D.flat (.int .i64 x))).length=n:=by simp [hl]
  have q0:=hp j
  have q1:=hp (j+1)
  generalize hF1:((el_ n (j+1)).map fun x=>D.flat (.int .i64 x))=F1 at*
  generalize hF0:((el_ n j).map fun x=>D.flat (.int .i64 x))=F0 at*
  clear hset hlen hp hz
  refine DW.walk ?_
  rw [hs]
  exact⟨j+1,by omega,by omega,by rw [hF1];exact Sub.auto⟩
 ·obtain rfl:n=j:=by omega
  rw [rp_]
  have q0:=ab_ (idU n)
  generalize ((idU n).map fun x=>D.flat (.int .i64 x))=F0 at*
  clear hset hlen hp hz
  refine DW.walk ?_
  exact⟨.inr rfl,ResL.twoA⟩
def kvP (x y:Int):Value:= .agg [Value.int .i64 x,Value.int .i64 y].toArray
theorem hg_ (x y:Int):IsV (.agg [.flat (.int .i64 x),.flat (.int .i64 y)]) (kvP x y):=IsV.agg [Value.int .i64 x,Value.int .i64 y] rfl
theorem ji_ {x y x' y':Int} (h:kvP x y=kvP x' y'):x=x'∧y=y':=by
 unfold kvP at h
 injection h with h
 have h1:=congrArg Array.toList h
 simp only [List.toList_toArray] at h1
 injection h1 with h2 h3
 injection h3 with h3
 injection h2 with _ h2
 injection h3 with _ h3
 exact⟨h2,h3⟩
theorem kh_:∃ n,Try.prog.types.size+1=n+2:=by
 have h:0<Try.prog.types.size:=by decide +kernel
 exact⟨Try.prog.types.size - 1,by omega⟩
def hm_:Option TypeDesc→Option (List (TypeId × Nat) × Bool)
 |some (.struct fs)=>some (fs.toList.map fun f=>(f.type,f.offset),fs.all (·.name != "_"))
 |_=>none
theorem p2_ {x:Int} (h0: -1000000000≤x) (h1:x≤1000000000):(Lit.int .i64 x).wf=true:=by
 simp [Lit.wf,IntKind.min,IntKind.max,IntKind.signed,IntKind.bits]
 omega
theorem p6_ {x y:Int} (hx0: -1000000000≤x) (hx1:x≤1000000000) (hy0: -1000000000≤y) (hy1:y≤1000000000):∃ l,keyOf Try.prog 171 (kvP x y)=some l:=by
  have hF:hm_ (Try.prog.underlying 171)=some ([(3,0),(3,1)],true):=by kernel_rfl
  have hc:Try.prog.cellsOf 171=2:=by kernel_rfl
  have hc2:Try.prog.cellsOf 3=1:=by kernel_rfl
  have hu2:Try.prog.underlying 3=some (.int .i64):=by kernel_rfl
  have hk:Try.prog.keyType 171=true:=by kernel_rfl
  have hx:=p2_ hx0 hx1
  have hy:=p2_ hy0 hy1
  obtain⟨n,hn⟩:=kh_
  have hu:∃ fs,Try.prog.underlying 171=some (.struct fs)∧fs.toList.map (fun f=>(f.type,f.offset))=[(3,0),(3,1)]∧fs.all (·.name != "_")=true:=by
    generalize Try.prog.underlying 171=u at hF
    unfold hm_ at hF
    split at hF
    · rename_i fs
      simp only [Option.some.injEq,Prod.mk.injEq] at hF
      exact⟨fs,rfl,hF.1,hF.2⟩
    ·cases hF
  obtain⟨fs,hu,hf,hall⟩:=hu
  obtain ⟨f0,f1,hfs,e0,e1,e2,e3⟩:∃ f0 f1,fs.toList=[f0,f1]∧f0.type=3∧f0.offset=0∧f1.type=3∧f1.offset=1:=by
    generalize fs.toList=q at hf
    cases q with
    |nil=>simp at hf
    | cons f0 r=>
      cases r with
      |nil=>simp at hf
      | cons f1 r2=>
        cases r2 with
        | nil=>
          simp only [List.map_cons,List.map_nil,List.cons.injEq,Prod.mk.injEq,and_true] at hf
          exact⟨f0,f1,rfl,hf.1.1,hf.1.2,hf.2.1,hf.2.2⟩
        |cons f2 r3=>simp at hf
  have hl:Try.prog.keyLits (n+2) 171 [Value.int .i64 x,Value.int .i64 y]=some [.int .i64 x,.int .i64 y]:=by
    have hi:∀ z:Int,(Lit.int .i64 z).wf=true→Try.prog.keyLits (n+1) 3 [Value.int .i64 z]=some [.int .i64 z]:=fun z hz=>by
      unfold Program.keyLits
      simp only [hu2,hz,and_self,if_true]
    rw [Program.keyLits.eq_def]
    simp only [hu,hc,List.length_cons,List.length_nil,hall,and_self,if_true,hfs]
    simp [e0,e1,e2,e3,hc2,hi x hx,hi y hy]
  refine⟨.string (keyBytes [.int .i64 x,.int .i64 y]),?_⟩
  unfold keyOf
  rw [hu]
  simp only [hk,hn,kvP,Value.formed,hu,hc,Value.cells,Bool.true_and,List.size_toArray,List.length_cons,List.length_nil,hl,decide_true,beq_self_eq_true,if_true,Option.map_some]
theorem ra_:Maps.Keyed Try.prog 171:=Maps.Keyed.of_law (deep_law_laid (by kernel_rfl) (m:=2) (by decide) (by decide +kernel) (by kernel_rfl) (by kernel_rfl))
theorem u2_ {n p:Nat} {f:Nat→Bool} (hp:p<n) (h:f p=true):∃ q,(List.range n).find? f=some q∧q≤p∧f q=true∧ ∀ r,r<q→f r=false:=g4_ hp h
def firstK (k:Nat→Int × Int) (a:Nat):Nat:=((List.range (a+1)).find? fun b=>decide (k b=k a)).getD 0
theorem be_ (k:Nat→Int × Int) (a:Nat):firstK k a≤a∧k (firstK k a)=k a∧ ∀ b,b<firstK k a→k b≠k a:=by
 obtain⟨q,h1,h2,h3,h4⟩:=u2_ (n:=a+1) (p:=a) (f:=fun b=>decide (k b=k a)) (by omega) (by simp)
 have hq:firstK k a=q:=by unfold firstK;rw [h1];rfl
 rw [hq]
 exact⟨h2,by simpa using h3,fun b hb=>by simpa using h4 b hb⟩
def fstK (k:Nat→Int × Int) (j:Nat):List Nat:=(List.range j).filter fun a=>decide (firstK k a=a)
theorem lx_ (k:Nat→Int × Int) (j:Nat):fstK k (j+1)=fstK k j++(if firstK k j=j then [j] else []):=by
 unfold fstK
 rw [List.range_succ,List.filter_append]
 congr 1
 by_cases h:firstK k j=j <;> simp [h]
theorem gt_ {k:Nat→Int × Int} {j a:Nat}:a∈fstK k j↔a<j∧firstK k a=a:=by simp [fstK]
theorem c7_ (k:Nat→Int × Int) (a:Nat):firstK k (firstK k a)=firstK k a:=by
 obtain⟨h1,h2,h3⟩:=be_ k a
 obtain⟨g1,g2,g3⟩:=be_ k (firstK k a)
 rcases Nat.lt_or_ge (firstK k (firstK k a)) (firstK k a) with h|h
 ·exact absurd (g2.trans h2) (h3 _ h)
 ·omega
theorem ky_ {k:Nat→Int × Int} {a b:Nat} (ha:firstK k a=a) (hb:firstK k b=b) (h:k a=k b):a=b:=by
 obtain⟨h1,h2,h3⟩:=be_ k a
 obtain⟨g1,g2,g3⟩:=be_ k b
 rcases Nat.lt_trichotomy a b with q|q|q
 ·exact absurd h (g3 a (by omega))
 ·exact q
 ·exact absurd h.symm (h3 b (by omega))
def kvK (k:Nat→Int × Int) (a:Nat):Value:=kvP (k a).1 (k a).2
def ksK (k:Nat→Int × Int) (j:Nat):List Value:=(fstK k j).map (kvK k)
def dsK (k:Nat→Int × Int) (j:Nat):List D:=(fstK k j).map fun a=>D.flat (.int .i64 ((a:Nat):Int))
theorem s8_ {k:Nat→Int × Int} {a b:Nat} (h:kvK k a=kvK k b):k a=k b:=by
 have:=ji_ h
 exact Prod.ext this.1 this.2
structure KBd (k:Nat→Int × Int) (n:Nat):Prop where
 x0:∀ a,a<n→ -1000000000≤(k a).1∧(k a).1≤1000000000
 y0:∀ a,a<n→ -1000000000≤(k a).2∧(k a).2≤1000000000
theorem s6_ {k:Nat→Int × Int} {n j:Nat} (hb:KBd k n) (hj:j≤n):KeysOk Try.prog 171 (ksK k j):=by
 refine⟨ra_,fun v hv=>?_,?_⟩
 ·obtain⟨a,ha,rfl⟩:=List.mem_map.1 hv
  have ha:=(gt_.1 ha).1
  exact p6_ (hb.x0 a (by omega)).1 (hb.x0 a (by omega)).2 (hb.y0 a (by omega)).1 (hb.y0 a (by omega)).2
 ·unfold ksK
  have hnd:(fstK k j).Nodup:=List.Nodup.sublist List.filter_sublist List.nodup_range
  refine List.Nodup.sublist (List.Sublist.refl _) ?_
  rw [List.nodup_iff_pairwise_ne,List.pairwise_map]
  refine (List.nodup_iff_pairwise_ne.1 hnd).imp_of_mem fun {a b} ha hb hne e=>hne ?_
  exact ky_ (gt_.1 ha).2 (gt_.1 hb).2 (s8_ e)
theorem v9_ {k:Nat→Int × Int} {n j:Nat} (hb:KBd k n) (hj:j<n) (hlt:firstK k j≠j):∃ i,LookT Try.prog 171 (ksK k j) (kvK k j) i∧(dsK k j)[i]?=some (D.flat (.int .i64 ((firstK k j:Nat):Int))):=by
 obtain⟨h1,h2,h3⟩:=be_ k j
 have hm:firstK k j∈fstK k j:=gt_.2 ⟨by omega,c7_ k j⟩
 obtain⟨i,hi⟩:=List.getElem?_of_mem hm
 refine⟨i,⟨s6_ hb (by omega),?_⟩,?_⟩
 ·unfold ksK
  rw [List.getElem?_map,hi]
  show some (kvK k (firstK k j))=_
  unfold kvK
  rw [h2]
 ·unfold dsK
  rw [List.getElem?_map,hi];rfl
theorem ox_ {k:Nat→Int × Int} {n j:Nat} (hb:KBd k n) (hj:j<n) (he:firstK k j=j):LookN Try.prog 171 (ksK k j) (kvK k j):=by
 refine⟨s6_ hb (by omega),p6_ (hb.x0 j hj).1 (hb.x0 j hj).2 (hb.y0 j hj).1 (hb.y0 j hj).2,fun hm=>?_⟩
 obtain⟨a,ha,e⟩:=List.mem_map.1 hm
 have ha:=(gt_.1 ha)
 have:=ky_ ha.2 he (s8_ e)
 omega
theorem x5_ {k:Nat→Int × Int} {j:Nat} (he:firstK k j=j):ksK k (j+1)=ksK k j++ [kvK k j]∧dsK k (j+1)=dsK k j++ [D.flat (.int .i64 ((j:Nat):Int))]:=by
 unfold ksK dsK
 rw [lx_,if_pos he]
 simp
theorem xb_ {k:Nat→Int × Int} {j:Nat} (he:firstK k j≠j):ksK k (j+1)=ksK k j∧dsK k (j+1)=dsK k j:=by
 unfold ksK dsK
 rw [lx_,if_neg he]
 simp
theorem us_ {k:Nat→Int × Int} {n j:Nat} (hb:KBd k n) (hj:j<n) (he:firstK k j=j):∃ i,LookT Try.prog 171 (ksK k j++ [kvK k j]) (kvK k j) i∧(dsK k j++ [D.flat (.int .i64 ((j:Nat):Int))])[i]?=some (D.flat (.int .i64 ((firstK k j:Nat):Int))):=by
 refine⟨(ksK k j).length,⟨(ox_ hb hj he).snoc,by simp⟩,?_⟩
 rw [he,show (ksK k j).length=(dsK k j).length by simp [ksK,dsK]]
 simp
def az_ (f:Nat→Int) (n j:Nat):List Int:=((List.range j).map f)++List.replicate (n - j) 0
theorem do_ {f:Nat→Int} {n j:Nat} (h:j≤n):(az_ f n j).length=n:=by simp [az_];omega
theorem fk_ (f:Nat→Int) (n:Nat):az_ f n 0=List.replicate n 0:=by simp [az_]
theorem go_ (f:Nat→Int) (n:Nat):az_ f n n=(List.range n).map f:=by simp [az_]
theorem j1_ {f:Nat→Int} {n j:Nat} (h:j<n):(az_ f n j).set j (f j)=az_ f n (j+1):=by
 refine List.ext_getElem? fun i=>?_
 have hl:=do_ (f:=f) (n:=n) (j:=j) (by omega)
 rw [List.getElem?_set,hl]
 by_cases e:j=i
 ·subst e
  rw [if_pos rfl,if_pos h]
  unfold az_
  rw [List.getElem?_append_left (by simp)]
  simp
 ·rw [if_neg e]
  unfold az_
  by_cases e2:i<j
  ·rw [List.getElem?_append_left (by simp;omega),List.getElem?_append_left (by simp;omega)]
   simp [e2,show i<j+1 by omega]
  ·rw [List.getElem?_append_right (by simp;omega),List.getElem?_append_right (by simp;omega)]
   simp only [List.length_map,List.length_range,List.getElem?_replicate]
   by_cases e3:i<n
   ·rw [if_pos (by omega),if_pos (by omega)]
   ·rw [if_neg (by omega),if_neg (by omega)]
theorem ge_ {f:Nat→Int} {n j:Nat} (h:j<n):List.take (j*1) ((az_ f n j).map fun x=>D.flat (.int .i64 x))++ [D.flat (.int .i64 (f j))]++List.drop (j*1+1) ((az_ f n j).map fun x=>D.flat (.int .i64 x))=((az_ f n (j+1)).map fun x=>D.flat (.int .i64 x)):=by
 have hl:=do_ (f:=f) (n:=n) (j:=j) (by omega)
 have h1:=bi_ (x:=D.flat (.int .i64 (f j))) (show j<((az_ f n j).map fun x=>D.flat (.int .i64 x)).length by simp [hl,h])
 unfold spliceD at h1
 rw [Nat.mul_one,← j1_ h,List.map_set]
 exact h1
theorem zj_ (M:List Int) (hM:M.length≤1000000) (a:Nat) (x:Int) (h:M[a]?=some x):DFun Try.prog 122 [.flat (.int .i64 ((a:Nat):Int)),.ptr [.sl false 1 M.length (M.map fun x=>D.flat (.int .i64 x))] 0] (.flat (.int .i64 x)):=by
 have hq:=an_ h
 have ha:=(List.getElem?_eq_some_iff.1 h).1
 have hp:=ab_ M
 generalize (M.map fun x=>D.flat (.int .i64 x))=LM at*
 clear h
 refine DFun.enterA Try.func122 Try.ntmps122 ?_
 refine DW.walk ?_
 exact⟨.inr rfl,ResOk.one [] rfl rfl trivial (Vw.pers rfl)⟩
def da_ (U M:List Int):List Int:=(List.range U.length).map fun a=>((firstK (fun b=>(U.getD b 0,M.getD b 0)) a:Nat):Int)
theorem xp_ (U M:List Int) (n:Nat) (hn:U.length=n) (hn2:n≤4096) (hM:M.length=n) (hf:Flat U) (hb:KBd (fun b=>(U.getD b 0,M.getD b 0)) n):
  DLend Try.prog 121 [.ref 225626701274425600001 0,.clo (.func 122) [] [.ptr [.sl false 1 M.length (M.map fun x=>D.flat (.int .i64 x))] 0]] [(15,none),(90003,none),(225626701274425600001,some (.box [.own 225626701274425600002 n])),(225626701274425600002,some (.row 3 1 n (U.map fun x=>D.flat (.int .i64 x))))] [(15,some (.box [.own 90003 n])),(90003,some (.row 3 1 n ((da_ U M).map fun x=>D.flat (.int .i64 x)))),(225626701274425600001,some (.box [.own 225626701274425600002 n])),(225626701274425600002,some (.row 3 1 n (U.map fun x=>D.flat (.int .i64 x))))] (.ref 15 0):=by
 have h1:=IdAt.of 13 90003
 have hln:=sc_ U
 have hhd:=fun (a m:Nat) (h:U[a]?=some (m:Int))=>im_ U hf (by omega) a m h
 have hmk:=fun (a:Nat) (x:Int) (h:M[a]?=some x)=>zj_ M (by omega) a x h
 have hat:=hf.at_
 have hky:∀ a:Nat,a<n→U[a]?=some (((fun b=>(U.getD b 0,M.getD b 0)) a).1)∧M[a]?=some (((fun b=>(U.getD b 0,M.getD b 0)) a).2):=fun a ha=>by
  have e1:a<U.length:=by omega
  have e2:a<M.length:=by omega
  simp [List.getD,e1,e2]
 have hku:da_ U M=az_ (fun a=>((firstK (fun b=>(U.getD b 0,M.getD b 0)) a:Nat):Int)) n n:=by rw [go_];unfold da_;rw [hn]
 rw [hku]
 generalize (fun b=>(U.getD b 0,M.getD b 0))=k at*
 have hp:=ab_ U
 have hpM:=ab_ M
 rw [hn] at hln hhd
 generalize (U.map fun x=>D.flat (.int .i64 x))=LU at*
 generalize (M.map fun x=>D.flat (.int .i64 x))=LM at*
 have hz:List.replicate n (D.flat (.int .i64 0))=((az_ (fun a=>((firstK k a:Nat):Int)) n 0).map fun x=>D.flat (.int .i64 x)):=by rw [fk_];simp
 have hset:=fun j (h:j<n)=>ge_ (f:=fun a=>((firstK k a:Nat):Int)) h
 have hlen:=fun j (h:j≤n)=>do_ (f:=fun a=>((firstK k a:Nat):Int)) h
 have hpf:=fun j=>ab_ (az_ (fun a=>((firstK k a:Nat):Int)) n j)
 have hpd:∀ j,persL (dsK k j)=true:=fun j=>ac_ (f:=fun a:Nat=>D.flat (.int .i64 ((a:Nat):Int))) (fun _=>rfl) (fstK k j)
 have hks0:ksK k 0=[]:=rfl
 have hds0:dsK k 0=[]:=rfl
 have hok0:=s6_ hb (Nat.zero_le n)
 refine DLend.enterA Try.func121 Try.ntmps121 ?_
 refine DW.walk ?_
 refine DW.loopA (fun j:Nat=>⟨[(0,.ref 225626701274425600001 0),(1,.clo (.func 122) [] [.ptr [.sl false 1 M.length LM] 0]),(5,.ref 15 0),(6,.mp 16),(18,.flat (.int .i64 ((n:Nat):Int))),(19,.flat (.int .i64 ((j:Nat):Int)))],[(225626701274425600001,some (.box [.own 225626701274425600002 n])),(225626701274425600002,some (.row 3 1 n LU)),(15,some (.box [.own 90003 n])),(90003,some (.row 3 1 n ((az_ (fun a=>((firstK k a:Nat):Int)) n j).map fun x=>D.flat (.int .i64 x)))),(16,some (.box (.keys (ksK k j)::dsK k j)))]⟩) (fun j=>j≤n) (fun j=>n - j) 0 ?_ (Nat.zero_le _) (by rw [hks0,hds0];have hp0:=hpf 0;rw [← hz] at hp0 ⊢;generalize (List.replicate n (D.flat (.int .i64 0)))=RZ at *;exact Sub.auto)
 intro j hj
 rcases Nat.lt_or_ge j n with hlt|hge
 ·obtain⟨u1,u2⟩:=hky j hlt
  obtain⟨m,hm, -, -⟩:=hat j _ u1
  have hhj:=hhd j m (by rw [← hm];exact u1)
  have hmj:=hmk j _ u2
  have hIs:=hg_ (k j).1 (k j).2
  have hs:=hset j hlt
  have hl:=hlen j hj
  have hl2:(((az_ (fun a=>((firstK k a:Nat):Int)) n j).map fun x=>D.flat (.int .i64 x))).length=n:=by simp [hl]
  have q0:=hpf j
  have q1:=hpf (j+1)
  have q2:persL (dsK k j)=true:=hpd j
  have q3:persL (dsK k (j+1))=true:=hpd (j+1)
  by_cases he:firstK k j=j
  ·have hLN:=ox_ hb hlt he
   obtain⟨i,hLT,hdi⟩:=us_ hb hlt he
   obtain⟨k1,k2⟩:=x5_ he
   unfold kvK at*
   generalize (k j).2=y at*
   generalize (k j).1=x at*
   subst hm
   generalize hKS1:ksK k (j+1)=KS1 at*
   generalize hDS1:dsK k (j+1)=DS1 at*
   generalize ksK k j=KS at*
   generalize dsK k j=DS0 at*
   generalize hF1:((az_ (fun a=>((firstK k a:Nat):Int)) n (j+1)).map fun x=>D.flat (.int .i64 x))=F1 at*
   generalize ((az_ (fun a=>((firstK k a:Nat):Int)) n j).map fun x=>D.flat (.int .i64 x))=F0 at*
   clear hset hlen hpf hpd hhd hmk hat hky hln hz hf hb hks0 hds0 hok0
   refine DW.walk ?_
   rw [hs,← k1,← k2]
   exact⟨j+1,by omega,by omega,by rw [hF1,hKS1,hDS1];exact Sub.auto⟩
  ·obtain⟨i,hLT,hdi⟩:=v9_ hb hlt he
   obtain⟨k1,k2⟩:=xb_ he
   unfold kvK at hLT
   generalize (k j).2=y at*
   generalize (k j).1=x at*
   subst hm
   generalize ksK k j=KS at*
   generalize dsK k j=DS0 at*
   generalize hF1:((az_ (fun a=>((firstK k a:Nat):Int)) n (j+1)).map fun x=>D.flat (.int .i64 x))=F1 at*
   generalize ((az_ (fun a=>((firstK k a:Nat):Int)) n j).map fun x=>D.flat (.int .i64 x))=F0 at*
   clear hset hlen hpf hpd hhd hmk hat hky hln hz hf hb hks0 hds0 hok0
   refine DW.walk ?_
   rw [hs]
   rw [k2] at q3
   exact⟨j+1,by omega,by omega,by rw [hF1,k1,k2];exact Sub.auto⟩
 ·obtain rfl:n=j:=by omega
  have q0:=hpf n
  generalize ((az_ (fun a=>((firstK k a:Nat):Int)) n n).map fun x=>D.flat (.int .i64 x))=F0 at*
  clear hset hlen hpf hhd hmk hat hky hz hf hks0 hds0
  refine DW.walk ?_
  exact⟨.inr rfl,ResL.oneA⟩
theorem qc_ (U M:List Int) (n:Nat) (hn:U.length=n) (hn2:n≤4096) (hM:M.length=n) (hf:Flat U) (hb:KBd (fun b=>(U.getD b 0,M.getD b 0)) n):
  DLend Try.prog 94 [.ref 225626701274425600001 0,.sl false 1 M.length (M.map fun x=>D.flat (.int .i64 x))] [(90003,none),(225626701274425600001,some (.box [.own 225626701274425600002 n])),(225626701274425600002,some (.row 3 1 n (U.map fun x=>D.flat (.int .i64 x))))] [(90003,some (.row 3 1 n ((da_ U M).map fun x=>D.flat (.int .i64 x)))),(225626701274425600001,some (.box [.own 90003 n])),(225626701274425600002,some (.row 3 1 n (U.map fun x=>D.flat (.int .i64 x))))] (.flat (.int .i64 0)):=by
 have hk:=xp_ U M n hn hn2 hM hf hb
 have hln:=sc_ U
 have hp:=ab_ U
 have hpM:=ab_ M
 have hpK:=ab_ (da_ U M)
 rw [hn] at hln
 generalize (U.map fun x=>D.flat (.int .i64 x))=LU at*
 generalize (M.map fun x=>D.flat (.int .i64 x))=LM at*
 generalize ((da_ U M).map fun x=>D.flat (.int .i64 x))=LK at*
 clear hf hb
 refine DLend.enterA Try.func94 Try.ntmps94 ?_
 refine DW.walkTo 3 ?_
 refine DW.sub (s':=⟨[(0,.ref 225626701274425600001 0),(3,.ptr [.sl false 1 M.length LM] 0)],[(225626701274425600001,some (.box [.own 225626701274425600002 n])),(225626701274425600002,some (.row 3 1 n LU))]⟩) Sub.auto ?_
 refine DW.walk ?_
 exact⟨.inr rfl,ResL.oneA⟩
end Go.Proofs.Ytichhfbkhnimmaa
