/- Pairs as keys of maps. No condition. -/
import Derived.Test.YtichhfbkhnimmaaYPD
import Derived.DeepKeys4
import Derived.Maps.Keyed
import Derived.Test.YtichhfbkhnimmaaYD9
set_option linter.unusedSimpArgs false
set_option linter.unusedVariables false
set_option maxHeartbeats 4000000
set_option maxRecDepth 8000
namespace Go.Proofs.Ytichhfbkhnimmaa
open Go Go.RowKit Go.PP Go.Dm Go.Rt Go.Mn
def kvP (x y:Int):Value:= .agg [Value.int .i64 x,Value.int .i64 y].toArray
theorem hx_ (x y:Int):IsV (.agg [.flat (.int .i64 x),.flat (.int .i64 y)]) (kvP x y):=IsV.agg [Value.int .i64 x,Value.int .i64 y] rfl
theorem i3_ {x y x' y':Int} (h:kvP x y=kvP x' y'):x=x'∧y=y':=by
 unfold kvP at h
 injection h with h
 have h1:=congrArg Array.toList h
 simp only [List.toList_toArray] at h1
 injection h1 with h2 h3
 injection h3 with h3
 injection h2 with _ h2
 injection h3 with _ h3
 exact⟨h2,h3⟩
theorem ko_:∃ n,Try.prog.types.size+1=n+2:=by
 have h:0<Try.prog.types.size:=by decide +kernel
 exact⟨Try.prog.types.size - 1,by omega⟩
def hs_:Option TypeDesc→Option (List (TypeId × Nat) × Bool)
 |some (.struct fs)=>some (fs.toList.map fun f=>(f.type,f.offset),fs.all (·.name != "_"))
 |_=>none
theorem p5_ {x:Int} (h0: -1000000000≤x) (h1:x≤1000000000):(Lit.int .i64 x).wf=true:=by
 simp [Lit.wf,IntKind.min,IntKind.max,IntKind.signed,IntKind.bits]
 omega
theorem pk_ {x y:Int} (hx0: -1000000000≤x) (hx1:x≤1000000000) (hy0: -1000000000≤y) (hy1:y≤1000000000):∃ l,keyOf Try.prog 171 (kvP x y)=some l:=by
  have hF:hs_ (Try.prog.underlying 171)=some ([(3,0),(3,1)],true):=by kernel_rfl
  have hc:Try.prog.cellsOf 171=2:=by kernel_rfl
  have hc2:Try.prog.cellsOf 3=1:=by kernel_rfl
  have hu2:Try.prog.underlying 3=some (.int .i64):=by kernel_rfl
  have hk:Try.prog.keyType 171=true:=by kernel_rfl
  have hx:=p5_ hx0 hx1
  have hy:=p5_ hy0 hy1
  obtain⟨n,hn⟩:=ko_
  have hu:∃ fs,Try.prog.underlying 171=some (.struct fs)∧fs.toList.map (fun f=>(f.type,f.offset))=[(3,0),(3,1)]∧fs.all (·.name != "_")=true:=by
    generalize Try.prog.underlying 171=u at hF
    unfold hs_ at hF
    split at hF
    · rename_i fs
      simp only [Option.some.injEq,Prod.mk.injEq] at hF
      exact⟨fs,rfl,hF.1,hF.2⟩
    ·cases hF
  obtain⟨fs,hu,hf,hall⟩:=hu
  obtain ⟨f0,f1,hfs,e0,e1,e2,e3⟩:∃ f0 f1,fs.toList=[f0,f1]∧f0.type=3∧f0.offset=0∧f1.type=3∧f1.offset=1:=by
    generalize fs.toList=q at hf
    cases q with
    |nil=>simp at hf
    | cons f0 r=>
      cases r with
      |nil=>simp at hf
      | cons f1 r2=>
        cases r2 with
        | nil=>
          simp only [List.map_cons,List.map_nil,List.cons.injEq,Prod.mk.injEq,and_true] at hf
          exact⟨f0,f1,rfl,hf.1.1,hf.1.2,hf.2.1,hf.2.2⟩
        |cons f2 r3=>simp at hf
  have hl:Try.prog.keyLits (n+2) 171 [Value.int .i64 x,Value.int .i64 y]=some [.int .i64 x,.int .i64 y]:=by
    have hi:∀ z:Int,(Lit.int .i64 z).wf=true→Try.prog.keyLits (n+1) 3 [Value.int .i64 z]=some [.int .i64 z]:=fun z hz=>by
      unfold Program.keyLits
      simp only [hu2,hz,and_self,if_true]
    rw [Program.keyLits.eq_def]
    simp only [hu,hc,List.length_cons,List.length_nil,hall,and_self,if_true,hfs]
    simp [e0,e1,e2,e3,hc2,hi x hx,hi y hy]
  refine⟨.string (keyBytes [.int .i64 x,.int .i64 y]),?_⟩
  unfold keyOf
  rw [hu]
  simp only [hk,hn,kvP,Value.formed,hu,hc,Value.cells,Bool.true_and,List.size_toArray,List.length_cons,List.length_nil,hl,decide_true,beq_self_eq_true,if_true,Option.map_some]
theorem rk_:Maps.Keyed Try.prog 171:=Maps.Keyed.of_law (deep_law_laid (by kernel_rfl) (m:=2) (by decide) (by decide +kernel) (by kernel_rfl) (by kernel_rfl))
theorem uw_ {n p:Nat} {f:Nat→Bool} (hp:p<n) (h:f p=true):∃ q,(List.range n).find? f=some q∧q≤p∧f q=true∧ ∀ r,r<q→f r=false:=ha_ hp h
def firstK (k:Nat→Int × Int) (a:Nat):Nat:=((List.range (a+1)).find? fun b=>decide (k b=k a)).getD 0
theorem bp_ (k:Nat→Int × Int) (a:Nat):firstK k a≤a∧k (firstK k a)=k a∧ ∀ b,b<firstK k a→k b≠k a:=by
 obtain⟨q,h1,h2,h3,h4⟩:=uw_ (n:=a+1) (p:=a) (f:=fun b=>decide (k b=k a)) (by omega) (by simp)
 have hq:firstK k a=q:=by unfold firstK;rw [h1];rfl
 rw [hq]
 exact⟨h2,by simpa using h3,fun b hb=>by simpa using h4 b hb⟩
def fstK (k:Nat→Int × Int) (j:Nat):List Nat:=(List.range j).filter fun a=>decide (firstK k a=a)
theorem nb_ (k:Nat→Int × Int) (j:Nat):fstK k (j+1)=fstK k j++(if firstK k j=j then [j] else []):=by
 unfold fstK
 rw [List.range_succ,List.filter_append]
 congr 1
 by_cases h:firstK k j=j <;> simp [h]
theorem g2_ {k:Nat→Int × Int} {j a:Nat}:a∈fstK k j↔a<j∧firstK k a=a:=by simp [fstK]
theorem db_ (k:Nat→Int × Int) (a:Nat):firstK k (firstK k a)=firstK k a:=by
 obtain⟨h1,h2,h3⟩:=bp_ k a
 obtain⟨g1,g2,g3⟩:=bp_ k (firstK k a)
 rcases Nat.lt_or_ge (firstK k (firstK k a)) (firstK k a) with h|h
 ·exact absurd (g2.trans h2) (h3 _ h)
 ·omega
theorem lh_ {k:Nat→Int × Int} {a b:Nat} (ha:firstK k a=a) (hb:firstK k b=b) (h:k a=k b):a=b:=by
 obtain⟨h1,h2,h3⟩:=bp_ k a
 obtain⟨g1,g2,g3⟩:=bp_ k b
 rcases Nat.lt_trichotomy a b with q|q|q
 ·exact absurd h (g3 a (by omega))
 ·exact q
 ·exact absurd h.symm (h3 b (by omega))
def kvK (k:Nat→Int × Int) (a:Nat):Value:=kvP (k a).1 (k a).2
def ksK (k:Nat→Int × Int) (j:Nat):List Value:=(fstK k j).map (kvK k)
def dsK (k:Nat→Int × Int) (j:Nat):List D:=(fstK k j).map fun a=>D.flat (.int .i64 ((a:Nat):Int))
theorem sm_ {k:Nat→Int × Int} {a b:Nat} (h:kvK k a=kvK k b):k a=k b:=by
 have:=i3_ h
 exact Prod.ext this.1 this.2
structure KBd (k:Nat→Int × Int) (n:Nat):Prop where
 x0:∀ a,a<n→ -1000000000≤(k a).1∧(k a).1≤1000000000
 y0:∀ a,a<n→ -1000000000≤(k a).2∧(k a).2≤1000000000
theorem t3_ {k:Nat→Int × Int} {n j:Nat} (hb:KBd k n) (hj:j≤n):KeysOk Try.prog 171 (ksK k j):=by
 refine⟨rk_,fun v hv=>?_,?_⟩
 ·obtain⟨a,ha,rfl⟩:=List.mem_map.1 hv
  have ha:=(g2_.1 ha).1
  exact pk_ (hb.x0 a (by omega)).1 (hb.x0 a (by omega)).2 (hb.y0 a (by omega)).1 (hb.y0 a (by omega)).2
 ·unfold ksK
  have hnd:(fstK k j).Nodup:=List.Nodup.sublist List.filter_sublist List.nodup_range
  refine List.Nodup.sublist (List.Sublist.refl _) ?_
  rw [List.nodup_iff_pairwise_ne,List.pairwise_map]
  refine (List.nodup_iff_pairwise_ne.1 hnd).imp_of_mem fun {a b} ha hb hne e=>hne ?_
  exact lh_ (g2_.1 ha).2 (g2_.1 hb).2 (sm_ e)
theorem vb_ {k:Nat→Int × Int} {n j:Nat} (hb:KBd k n) (hj:j<n) (hlt:firstK k j≠j):∃ i,LookT Try.prog 171 (ksK k j) (kvK k j) i∧(dsK k j)[i]?=some (D.flat (.int .i64 ((firstK k j:Nat):Int))):=by
 obtain⟨h1,h2,h3⟩:=bp_ k j
 have hm:firstK k j∈fstK k j:=g2_.2 ⟨by omega,db_ k j⟩
 obtain⟨i,hi⟩:=List.getElem?_of_mem hm
 refine⟨i,⟨t3_ hb (by omega),?_⟩,?_⟩
 ·unfold ksK
  rw [List.getElem?_map,hi]
  show some (kvK k (firstK k j))=_
  unfold kvK
  rw [h2]
 ·unfold dsK
  rw [List.getElem?_map,hi];rfl
theorem o8_ {k:Nat→Int × Int} {n j:Nat} (hb:KBd k n) (hj:j<n) (he:firstK k j=j):LookN Try.prog 171 (ksK k j) (kvK k j):=by
 refine⟨t3_ hb (by omega),pk_ (hb.x0 j hj).1 (hb.x0 j hj).2 (hb.y0 j hj).1 (hb.y0 j hj).2,fun hm=>?_⟩
 obtain⟨a,ha,e⟩:=List.mem_map.1 hm
 have ha:=(g2_.1 ha)
 have:=lh_ ha.2 he (sm_ e)
 omega
theorem y6_ {k:Nat→Int × Int} {j:Nat} (he:firstK k j=j):ksK k (j+1)=ksK k j++ [kvK k j]∧dsK k (j+1)=dsK k j++ [D.flat (.int .i64 ((j:Nat):Int))]:=by
 unfold ksK dsK
 rw [nb_,if_pos he]
 simp
theorem xr_ {k:Nat→Int × Int} {j:Nat} (he:firstK k j≠j):ksK k (j+1)=ksK k j∧dsK k (j+1)=dsK k j:=by
 unfold ksK dsK
 rw [nb_,if_neg he]
 simp
theorem v8_ {k:Nat→Int × Int} {n j:Nat} (hb:KBd k n) (hj:j<n) (he:firstK k j=j):∃ i,LookT Try.prog 171 (ksK k j++ [kvK k j]) (kvK k j) i∧(dsK k j++ [D.flat (.int .i64 ((j:Nat):Int))])[i]?=some (D.flat (.int .i64 ((firstK k j:Nat):Int))):=by
 refine⟨(ksK k j).length,⟨(o8_ hb hj he).snoc,by simp⟩,?_⟩
 rw [he,show (ksK k j).length=(dsK k j).length by simp [ksK,dsK]]
 simp
def a9_ (f:Nat→Int) (n j:Nat):List Int:=((List.range j).map f)++List.replicate (n - j) 0
theorem dt_ {f:Nat→Int} {n j:Nat} (h:j≤n):(a9_ f n j).length=n:=by simp [a9_];omega
theorem fu_ (f:Nat→Int) (n:Nat):a9_ f n 0=List.replicate n 0:=by simp [a9_]
theorem gy_ (f:Nat→Int) (n:Nat):a9_ f n n=(List.range n).map f:=by simp [a9_]
theorem ke_ {f:Nat→Int} {n j:Nat} (h:j<n):(a9_ f n j).set j (f j)=a9_ f n (j+1):=by
 refine List.ext_getElem? fun i=>?_
 have hl:=dt_ (f:=f) (n:=n) (j:=j) (by omega)
 rw [List.getElem?_set,hl]
 by_cases e:j=i
 ·subst e
  rw [if_pos rfl,if_pos h]
  unfold a9_
  rw [List.getElem?_append_left (by simp)]
  simp
 ·rw [if_neg e]
  unfold a9_
  by_cases e2:i<j
  ·rw [List.getElem?_append_left (by simp;omega),List.getElem?_append_left (by simp;omega)]
   simp [e2,show i<j+1 by omega]
  ·rw [List.getElem?_append_right (by simp;omega),List.getElem?_append_right (by simp;omega)]
   simp only [List.length_map,List.length_range,List.getElem?_replicate]
   by_cases e3:i<n
   ·rw [if_pos (by omega),if_pos (by omega)]
   ·rw [if_neg (by omega),if_neg (by omega)]
theorem gm_ {f:Nat→Int} {n j:Nat} (h:j<n):List.take (j*1) ((a9_ f n j).map fun x=>D.flat (.int .i64 x))++ [D.flat (.int .i64 (f j))]++List.drop (j*1+1) ((a9_ f n j).map fun x=>D.flat (.int .i64 x))=((a9_ f n (j+1)).map fun x=>D.flat (.int .i64 x)):=by
 have hl:=dt_ (f:=f) (n:=n) (j:=j) (by omega)
 have h1:=bk_ (x:=D.flat (.int .i64 (f j))) (show j<((a9_ f n j).map fun x=>D.flat (.int .i64 x)).length by simp [hl,h])
 unfold spliceD at h1
 rw [Nat.mul_one,← ke_ h,List.map_set]
 exact h1
theorem z9_ (M:List Int) (hM:M.length≤1000000) (a:Nat) (x:Int) (h:M[a]?=some x):DFun Try.prog 122 [.flat (.int .i64 ((a:Nat):Int)),.ptr [.sl false 1 M.length (M.map fun x=>D.flat (.int .i64 x))] 0] (.flat (.int .i64 x)):=by
 have hq:=as_ h
 have ha:=(List.getElem?_eq_some_iff.1 h).1
 have hp:=ad_ M
 generalize (M.map fun x=>D.flat (.int .i64 x))=LM at*
 clear h
 refine DFun.enterA Try.func122 Try.ntmps122 ?_
 refine DW.walk ?_
 exact⟨.inr rfl,ResOk.one [] rfl rfl trivial (Vw.pers rfl)⟩
def dh_ (U M:List Int):List Int:=(List.range U.length).map fun a=>((firstK (fun b=>(U.getD b 0,M.getD b 0)) a:Nat):Int)
theorem x7_ (U M:List Int) (n:Nat) (hn:U.length=n) (hn2:n≤4096) (hM:M.length=n) (hf:Flat U) (hb:KBd (fun b=>(U.getD b 0,M.getD b 0)) n):
  DLend Try.prog 121 [.ref 225626701274425600001 0,.clo (.func 122) [] [.ptr [.sl false 1 M.length (M.map fun x=>D.flat (.int .i64 x))] 0]] [(15,none),(90003,none),(225626701274425600001,some (.box [.own 225626701274425600002 n])),(225626701274425600002,some (.row 3 1 n (U.map fun x=>D.flat (.int .i64 x))))] [(15,some (.box [.own 90003 n])),(90003,some (.row 3 1 n ((dh_ U M).map fun x=>D.flat (.int .i64 x)))),(225626701274425600001,some (.box [.own 225626701274425600002 n])),(225626701274425600002,some (.row 3 1 n (U.map fun x=>D.flat (.int .i64 x))))] (.ref 15 0):=by
 have h1:=IdAt.of 13 90003
 have hln:=sl_ U
 have hhd:=fun (a m:Nat) (h:U[a]?=some (m:Int))=>ib_ U hf (by omega) a m h
 have hmk:=fun (a:Nat) (x:Int) (h:M[a]?=some x)=>z9_ M (by omega) a x h
 have hat:=hf.at_
 have hky:∀ a:Nat,a<n→U[a]?=some (((fun b=>(U.getD b 0,M.getD b 0)) a).1)∧M[a]?=some (((fun b=>(U.getD b 0,M.getD b 0)) a).2):=fun a ha=>by
  have e1:a<U.length:=by omega
  have e2:a<M.length:=by omega
  simp [List.getD,e1,e2]
 have hku:dh_ U M=a9_ (fun a=>((firstK (fun b=>(U.getD b 0,M.getD b 0)) a:Nat):Int)) n n:=by rw [gy_];unfold dh_;rw [hn]
 rw [hku]
 generalize (fun b=>(U.getD b 0,M.getD b 0))=k at*
 have hp:=ad_ U
 have hpM:=ad_ M
 rw [hn] at hln hhd
 generalize (U.map fun x=>D.flat (.int .i64 x))=LU at*
 generalize (M.map fun x=>D.flat (.int .i64 x))=LM at*
 have hz:List.replicate n (D.flat (.int .i64 0))=((a9_ (fun a=>((firstK k a:Nat):Int)) n 0).map fun x=>D.flat (.int .i64 x)):=by rw [fu_];simp
 have hset:=fun j (h:j<n)=>gm_ (f:=fun a=>((firstK k a:Nat):Int)) h
 have hlen:=fun j (h:j≤n)=>dt_ (f:=fun a=>((firstK k a:Nat):Int)) h
 have hpf:=fun j=>ad_ (a9_ (fun a=>((firstK k a:Nat):Int)) n j)
 have hpd:∀ j,persL (dsK k j)=true:=fun j=>af_ (f:=fun a:Nat=>D.flat (.int .i64 ((a:Nat):Int))) (fun _=>rfl) (fstK k j)
 have hks0:ksK k 0=[]:=rfl
 have hds0:dsK k 0=[]:=rfl
 have hok0:=t3_ hb (Nat.zero_le n)
 refine DLend.enterA Try.func121 Try.ntmps121 ?_
 refine DW.walk ?_
 refine DW.loopA (fun j:Nat=>⟨[(0,.ref 225626701274425600001 0),(1,.clo (.func 122) [] [.ptr [.sl false 1 M.length LM] 0]),(5,.ref 15 0),(6,.mp 16),(18,.flat (.int .i64 ((n:Nat):Int))),(19,.flat (.int .i64 ((j:Nat):Int)))],[(225626701274425600001,some (.box [.own 225626701274425600002 n])),(225626701274425600002,some (.row 3 1 n LU)),(15,some (.box [.own 90003 n])),(90003,some (.row 3 1 n ((a9_ (fun a=>((firstK k a:Nat):Int)) n j).map fun x=>D.flat (.int .i64 x)))),(16,some (.box (.keys (ksK k j)::dsK k j)))]⟩) (fun j=>j≤n) (fun j=>n - j) 0 ?_ (Nat.zero_le _) (by rw [hks0,hds0];have hp0:=hpf 0;rw [← hz] at hp0 ⊢;generalize (List.replicate n (D.flat (.int .i64 0)))=RZ at *;exact Sub.auto)
 intro j hj
 rcases Nat.lt_or_ge j n with hlt|hge
 ·obtain⟨u1,u2⟩:=hky j hlt
  obtain⟨m,hm, -, -⟩:=hat j _ u1
  have hhj:=hhd j m (by rw [← hm];exact u1)
  have hmj:=hmk j _ u2
  have hIs:=hx_ (k j).1 (k j).2
  have hs:=hset j hlt
  have hl:=hlen j hj
  have hl2:(((a9_ (fun a=>((firstK k a:Nat):Int)) n j).map fun x=>D.flat (.int .i64 x))).length=n:=by simp [hl]
  have q0:=hpf j
  have q1:=hpf (j+1)
  have q2:persL (dsK k j)=true:=hpd j
  have q3:persL (dsK k (j+1))=true:=hpd (j+1)
  by_cases he:firstK k j=j
  ·have hLN:=o8_ hb hlt he
   obtain⟨i,hLT,hdi⟩:=v8_ hb hlt he
   obtain⟨k1,k2⟩:=y6_ he
   unfold kvK at*
   generalize (k j).2=y at*
   generalize (k j).1=x at*
   subst hm
   generalize hKS1:ksK k (j+1)=KS1 at*
   generalize hDS1:dsK k (j+1)=DS1 at*
   generalize ksK k j=KS at*
   generalize dsK k j=DS0 at*
   generalize hF1:((a9_ (fun a=>((firstK k a:Nat):Int)) n (j+1)).map fun x=>D.flat (.int .i64 x))=F1 at*
   generalize ((a9_ (fun a=>((firstK k a:Nat):Int)) n j).map fun x=>D.flat (.int .i64 x))=F0 at*
   clear hset hlen hpf hpd hhd hmk hat hky hln hz hf hb hks0 hds0 hok0
   refine DW.walk ?_
   rw [hs,← k1,← k2]
   exact⟨j+1,by omega,by omega,by rw [hF1,hKS1,hDS1];exact Sub.auto⟩
  ·obtain⟨i,hLT,hdi⟩:=vb_ hb hlt he
   obtain⟨k1,k2⟩:=xr_ he
   unfold kvK at hLT
   generalize (k j).2=y at*
   generalize (k j).1=x at*
   subst hm
   generalize ksK k j=KS at*
   generalize dsK k j=DS0 at*
   generalize hF1:((a9_ (fun a=>((firstK k a:Nat):Int)) n (j+1)).map fun x=>D.flat (.int .i64 x))=F1 at*
   generalize ((a9_ (fun a=>((firstK k a:Nat):Int)) n j).map fun x=>D.flat (.int .i64 x))=F0 at*
   clear hset hlen hpf hpd hhd hmk hat hky hln hz hf hb hks0 hds0 hok0
   refine DW.walk ?_
   rw [hs]
   rw [k2] at q3
   exact⟨j+1,by omega,by omega,by rw [hF1,k1,k2];exact Sub.auto⟩
 ·obtain rfl:n=j:=by omega
  have q0:=hpf n
  generalize ((a9_ (fun a=>((firstK k a:Nat):Int)) n n).map fun x=>D.flat (.int .i64 x))=F0 at*
  clear hset hlen hpf hhd hmk hat hky hz hf hks0 hds0
  refine DW.walk ?_
  exact⟨.inr rfl,ResL.oneA⟩
theorem pc_ (U M:List Int) (n:Nat) (hn:U.length=n) (hn2:n≤4096) (hM:M.length=n) (hf:Flat U) (hb:KBd (fun b=>(U.getD b 0,M.getD b 0)) n):
  DLend Try.prog 94 [.ref 225626701274425600001 0,.sl false 1 M.length (M.map fun x=>D.flat (.int .i64 x))] [(90003,none),(225626701274425600001,some (.box [.own 225626701274425600002 n])),(225626701274425600002,some (.row 3 1 n (U.map fun x=>D.flat (.int .i64 x))))] [(90003,some (.row 3 1 n ((dh_ U M).map fun x=>D.flat (.int .i64 x)))),(225626701274425600001,some (.box [.own 90003 n])),(225626701274425600002,some (.row 3 1 n (U.map fun x=>D.flat (.int .i64 x))))] (.flat (.int .i64 0)):=by
 have hk:=x7_ U M n hn hn2 hM hf hb
 have hln:=sl_ U
 have hp:=ad_ U
 have hpM:=ad_ M
 have hpK:=ad_ (dh_ U M)
 rw [hn] at hln
 generalize (U.map fun x=>D.flat (.int .i64 x))=LU at*
 generalize (M.map fun x=>D.flat (.int .i64 x))=LM at*
 generalize ((dh_ U M).map fun x=>D.flat (.int .i64 x))=LK at*
 clear hf hb
 refine DLend.enterA Try.func94 Try.ntmps94 ?_
 refine DW.walkTo 3 ?_
 refine DW.sub (s':=⟨[(0,.ref 225626701274425600001 0),(3,.ptr [.sl false 1 M.length LM] 0)],[(225626701274425600001,some (.box [.own 225626701274425600002 n])),(225626701274425600002,some (.row 3 1 n LU))]⟩) Sub.auto ?_
 refine DW.walk ?_
 exact⟨.inr rfl,ResL.oneA⟩
def spC (l:List Sp):List D:=l.flatMap fun s=> [.flat (.int .i64 s.sym),.flat (.int .i64 s.at_),.flat (.int .i64 s.other)]
theorem gp_ (l:List Sp) (s:Sp):spC (l++ [s])=spC l++ [.flat (.int .i64 s.sym),.flat (.int .i64 s.at_),.flat (.int .i64 s.other)]:=by simp [spC]
theorem ao_ (l:List Sp):persL (spC l)=true:=hk_ (fun _=>rfl) l
def stQ (A:Au) (i:Nat):List Sp:=(List.range i).flatMap (ej_ A)
def stW (A:Au) (i w:Nat):List Sp:=(List.range w).flatMap fun (w:Nat)=>((List.range A.f.length).filter fun (m:Nat)=>decide ((m:Int)∈ac_ A)).map fun (m:Nat)=>(⟨i,w,m⟩:Sp)
def stO (A:Au) (i w o:Nat):List Sp:=((List.range o).filter fun (m:Nat)=>decide ((m:Int)∈ac_ A)).map fun (m:Nat)=>(⟨i,w,m⟩:Sp)
theorem md_ (A:Au) (i:Nat):stQ A (i+1)=stQ A i++ej_ A i:=by simp [stQ,List.range_succ]
theorem mf_ (A:Au) (i w:Nat):stW A i (w+1)=stW A i w++stO A i w A.f.length:=by simp [stW,stO,List.range_succ]
theorem qb_ (A:Au) (i w o:Nat):stO A i w (o+1)=if (o:Int)∈ac_ A then stO A i w o++ [⟨i,w,o⟩] else stO A i w o:=by
 unfold stO
 rw [List.range_succ,List.filter_append,List.map_append]
 by_cases h:(o:Int)∈ac_ A <;> simp [h]
theorem o1_ (A:Au) (i w o:Nat):(stO A i w o).length≤o:=by
 unfold stO
 rw [List.length_map]
 exact Nat.le_trans (List.length_filter_le ..) (by simp)
theorem lr_ (A:Au) (i:Nat):∀ w,(stW A i w).length≤w*A.f.length
 |0=>by simp [stW]
 |w+1=>by
  rw [mf_,List.length_append]
  have h1:=lr_ A i w
  have h2:=o1_ A i w A.f.length
  rw [Nat.add_mul];omega
theorem rf_ (A:Au) (hn:A.f.length≤512) (i:Nat):(ej_ A i).length≤1024:=by
 unfold ej_
 split
 ·simp
 ·split
  ·have h1:=lr_ A i 2
   unfold stW at h1
   omega
  ·simp
theorem dp_ (A:Au) (hn:A.f.length≤512):∀ i,(stQ A i).length≤i*1024
 |0=>by simp [stQ]
 |i+1=>by
  rw [md_,List.length_append]
  have h1:=dp_ A hn i
  have h2:=rf_ A hn i
  omega
theorem t2_ (A:Au) (hk:chk A=0):DFun Try.prog 54 [auD A] (.sl false 3 (ab_ A).length (spC (ab_ A))):=by
  have hok:=a4_ hk
  have hre:=r4_ A (bs_ hok)
  rw [ik_ hk] at hre
  have hn:=hok.hi
  have hrl:=hok.alpha.hi
  have hlb:(isB A.f.length (ac_ A)).length=A.f.length:=d5_ _ _
  have hgb:∀ o:Nat,o<A.f.length→partD false 1 (o*1) ((isB A.f.length (ac_ A)).map fun x=>D.flat (.bool x))=some (.flat (.bool (decide ((o:Int)∈ac_ A)))):=fun o h=>dy_ (ff_ h _)
  have hpr:∀ (i:Nat) (x:Int),A.r[i]?=some x→partD false 1 (i*1) (A.r.map fun x=>D.flat (.int .i64 x))=some (.flat (.int .i64 x)):=fun i x h=>as_ h
  have hrk:∀ (i:Nat) (x:Int),A.r[i]?=some x→ ∃ m:Nat,x=(m:Int)∧m≤2:=fun i x h=>h0_ hok h
  have hsS:∀ (i:Nat) (x:Int),A.r[i]?=some x→ej_ A i=if x=1 then [⟨i,0, -1⟩] else if x=2 then stW A i 2 else []:=fun i x h=>by
    unfold ej_ stW
    simp [List.getD,h]
  have hQl:=dp_ A hn
  have hWl:=fun i w=>lr_ A i w
  have hOl:=fun i w o=>o1_ A i w o
  have hQs:=md_ A
  have hWs:=fun i w=>mf_ A i w
  have hOs:=fun i w o=>qb_ A i w o
  have hst:ab_ A=stQ A A.r.length:=rfl
  rw [hst]
  have hQ0:stQ A 0=[]:=rfl
  have hW0:∀ i,stW A i 0=[]:=fun _=>rfl
  have hO0:∀ i w,stO A i w 0=[]:=fun _ _=>rfl
  have hpF:=ai_ (isB A.f.length (ac_ A))
  have q1:=ad_ A.r
  have q2:=ai_ A.f
  have q3:=al_ A.to
  rw [au_] at*
  rw [hlb] at hre
  generalize ((isB A.f.length (ac_ A)).map fun x=>D.flat (.bool x))=LF at*
  generalize (A.r.map fun x=>D.flat (.int .i64 x))=LR at*
  generalize (A.f.map fun x=>D.flat (.bool x))=LB at*
  generalize ag_ A.to=LT at*
  generalize stQ A=Q at*
  generalize stW A=W at*
  generalize stO A=O at*
  generalize ej_ A=S at*
  generalize A.f.length=n at*
  clear hst hlb hok
  refine DFun.enterA Try.func54 Try.ntmps54 ?_
  refine DW.walkTo 3 ?_
  refine DW.adopt 5 109 50 3 rfl rfl ?_
  refine DW.sub (s':=⟨[(1,.ptr [.sl false 1 A.r.length LR,.sl false 1 n LB,.sl false 1 A.to.length LT] 0),(3,.sl false 1 n LF),(5,.own 109 0)],[(109,some (.row 50 3 0 []))]⟩) Sub.auto ?_
  refine DW.walk ?_
  refine DW.loopA (fun i:Nat=>⟨[(1,.ptr [.sl false 1 A.r.length LR,.sl false 1 n LB,.sl false 1 A.to.length LT] 0),(3,.sl false 1 n LF),(5,.own 109 (Q i).length),(17,.sl false 1 A.r.length LR),(18,.flat (.int .i64 ((A.r.length:Nat):Int))),(19,.flat (.int .i64 ((i:Nat):Int)))],[(109,some (.row 50 3 (Q i).length (spC (Q i))))]⟩) (fun i=>i≤A.r.length) (fun i=>A.r.length - i) 0 ?_ (Nat.zero_le _) (by rw [hQ0];exact Sub.auto)
  intro i hi
  rcases Nat.lt_or_ge i A.r.length with hil|hig
  · obtain ⟨x,hx⟩:∃ x,A.r[i]?=some x:=⟨A.r[i],by simp⟩
    obtain⟨m,rfl,hm2⟩:=hrk i x hx
    have hp:=hpr i _ hx
    have hss:=hsS i _ hx
    have hqs:=hQs i
    have hql:=hQl i
    have hq1:=ao_ (Q i)
    have hq2:=ao_ (Q (i+1))
    rcases (show m=0∨m=1∨m=2 by omega) with rfl|rfl|rfl
    · rw [if_neg (by decide),if_neg (by decide)] at hss
      rw [hss,List.append_nil] at hqs
      clear hpr hrk hsS hQl hWl hOl hQs hWs hOs hQ0 hW0 hO0 hgb
      refine DW.walk ?_
      refine DW.loopA (fun _:Unit=>⟨[(34,.flat (.int .i64 0)),(35,.flat (.int .i64 0)),(1,.ptr [.sl false 1 A.r.length LR,.sl false 1 n LB,.sl false 1 A.to.length LT] 0),(3,.sl false 1 n LF),(5,.own 109 (Q i).length),(17,.sl false 1 A.r.length LR),(18,.flat (.int .i64 ((A.r.length:Nat):Int))),(19,.flat (.int .i64 ((i:Nat):Int)))],[(109,some (.row 50 3 (Q i).length (spC (Q i))))]⟩) (fun _=>True) (fun _=>0) () ?_ trivial
      intro _ _
      refine DW.walk ?_
      exact⟨i+1,by omega,by omega,by rw [hqs];exact Sub.auto⟩
    · rw [if_pos (by decide)] at hss
      rw [hss] at hqs
      have hsn:=gp_ (Q i) ⟨i,0, -1⟩
      rw [← hqs] at hsn
      have hql2:(Q (i+1)).length=(Q i).length+1:=by rw [hqs];simp
      clear hpr hrk hsS hQl hWl hOl hQs hWs hOs hQ0 hW0 hO0 hgb hqs
      refine DW.walkTo 8 ?_
      rw [← hsn]
      refine DW.walk ?_
      refine DW.loopA (fun _:Unit=>⟨[(34,.flat (.int .i64 0)),(35,.flat (.int .i64 0)),(1,.ptr [.sl false 1 A.r.length LR,.sl false 1 n LB,.sl false 1 A.to.length LT] 0),(3,.sl false 1 n LF),(5,.own 109 (Q (i+1)).length),(17,.sl false 1 A.r.length LR),(18,.flat (.int .i64 ((A.r.length:Nat):Int))),(19,.flat (.int .i64 ((i:Nat):Int)))],[(109,some (.row 50 3 (Q (i+1)).length (spC (Q (i+1)))))]⟩) (fun _=>True) (fun _=>0) () ?_ trivial (by rw [hql2];exact Sub.auto)
      intro _ _
      refine DW.walk ?_
      exact⟨i+1,by omega,by omega,Sub.auto⟩
    · rw [if_neg (by decide),if_pos (by decide)] at hss
      rw [hss] at hqs
      clear hpr hrk hsS hQl hQs hQ0
      refine DW.walk ?_
      refine DW.loopA (fun w:Nat=>⟨[(6,.flat (.int .i64 ((i:Nat):Int))),(34,.flat (.int .i64 ((2:Nat):Int))),(35,.flat (.int .i64 ((w:Nat):Int))),(1,.ptr [.sl false 1 A.r.length LR,.sl false 1 n LB,.sl false 1 A.to.length LT] 0),(3,.sl false 1 n LF),(5,.own 109 (Q i++W i w).length),(17,.sl false 1 A.r.length LR),(18,.flat (.int .i64 ((A.r.length:Nat):Int))),(19,.flat (.int .i64 ((i:Nat):Int)))],[(109,some (.row 50 3 (Q i++W i w).length (spC (Q i++W i w))))]⟩) (fun w=>w≤2) (fun w=>2 - w) 0 ?_ (Nat.zero_le _) (by rw [hW0,List.append_nil];exact Sub.auto)
      intro w hw
      have hwl:=hWl i w
      have hq3:=ao_ (Q i++W i w)
      rcases Nat.lt_or_ge w 2 with hwlt|hwge
      · refine DW.walk ?_
        refine DW.loopA (fun o:Nat=>⟨[(8,.flat (.int .i64 ((w:Nat):Int))),(38,.sl false 1 n LF),(39,.flat (.int .i64 ((n:Nat):Int))),(40,.flat (.int .i64 ((o:Nat):Int))),(6,.flat (.int .i64 ((i:Nat):Int))),(34,.flat (.int .i64 ((2:Nat):Int))),(35,.flat (.int .i64 ((w:Nat):Int))),(1,.ptr [.sl false 1 A.r.length LR,.sl false 1 n LB,.sl false 1 A.to.length LT] 0),(3,.sl false 1 n LF),(5,.own 109 (Q i++W i w++O i w o).length),(17,.sl false 1 A.r.length LR),(18,.flat (.int .i64 ((A.r.length:Nat):Int))),(19,.flat (.int .i64 ((i:Nat):Int)))],[(109,some (.row 50 3 (Q i++W i w++O i w o).length (spC (Q i++W i w++O i w o))))]⟩) (fun o=>o≤n) (fun o=>n - o) 0 ?_ (Nat.zero_le _) (by rw [hO0,List.append_nil];exact Sub.auto)
        intro o ho
        have hol:=hOl i w o
        have hos:=hOs i w o
        have hws:=hWs i w
        have hq4:=ao_ (Q i++W i w++O i w o)
        rcases Nat.lt_or_ge o n with holt|hoge
        · have hg:=hgb o holt
          by_cases hmem:(o:Int)∈ac_ A
          · rw [decide_eq_true hmem] at hg
            rw [if_pos hmem] at hos
            have hsn:=gp_ (Q i++W i w++O i w o) ⟨i,w,o⟩
            have hcat:Q i++W i w++O i w o++ [⟨i,w,o⟩]=Q i++W i w++O i w (o+1):=by rw [hos,List.append_assoc (Q i++W i w)]
            rw [hcat] at hsn
            have hll:(Q i++W i w++O i w (o+1)).length=(Q i++W i w++O i w o).length+1:=by rw [← hcat];simp;omega
            have hlb2:(Q i++W i w++O i w o).length≤i*1024+2000:=by simp only [List.length_append];have:w*n≤1*512:=Nat.mul_le_mul (by omega) hn;omega
            have hq5:=ao_ (Q i++W i w++O i w (o+1))
            generalize hX1:Q i++W i w++O i w (o+1)=X1 at*
            generalize Q i++W i w++O i w o=X0 at*
            clear hgb hWl hOl hWs hOs hW0 hO0 hws hos hcat hss hqs
            refine DW.walk ?_
            rw [← hsn]
            exact⟨o+1,by omega,by omega,by rw [hX1,hll];exact Sub.auto⟩
          · rw [decide_eq_false hmem] at hg
            rw [if_neg hmem] at hos
            generalize hX0:Q i++W i w++O i w o=X0 at*
            clear hgb hWl hOl hWs hOs hW0 hO0 hws hss hqs
            refine DW.walk ?_
            exact⟨o+1,by omega,by omega,by rw [hos,hX0];exact Sub.auto⟩
        · obtain rfl:n=o:=by omega
          have hcat:Q i++W i w++O i w n=Q i++W i (w+1):=by rw [hws,List.append_assoc]
          generalize hX0:Q i++W i w++O i w n=X0 at*
          clear hgb hWl hOl hWs hOs hW0 hO0 hws hss hqs hos
          refine DW.walk ?_
          exact⟨w+1,by omega,by omega,by rw [← hcat];exact Sub.auto⟩
      · obtain rfl:w=2:=by omega
        rw [← hqs]
        clear hgb hWl hOl hWs hOs hW0 hO0 hss hqs hq3 hwl
        refine DW.walk ?_
        exact⟨i+1,by omega,by omega,Sub.auto⟩
  · obtain rfl:i=A.r.length:=by omega
    have hq1:=ao_ (Q A.r.length)
    generalize Q A.r.length=X at*
    clear hpr hrk hsS hQl hWl hOl hQs hWs hOs hQ0 hW0 hO0 hgb
    refine DW.walk ?_
    exact⟨.inr rfl,ResOk.one [(109,some (.row 50 3 X.length (spC X)))] rfl rfl ⟨rfl,trivial⟩ (Vw.own (.head _) (VwL.pers hq1))⟩
end Go.Proofs.Ytichhfbkhnimmaa
