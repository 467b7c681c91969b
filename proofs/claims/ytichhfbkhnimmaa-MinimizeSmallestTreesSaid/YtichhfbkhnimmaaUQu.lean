/- Arguments opened as data. No condition. -/
import Derived.Test.YtichhfbkhnimmaaUW
import Derived.Deep.Slices
import Derived.OpenShut
import Derived.SizedLaws
import Derived.ChangeMaps5
set_option linter.unusedSimpArgs false
set_option linter.unusedVariables false
set_option linter.unusedSectionVars false
set_option maxHeartbeats 400000
namespace Go.Dm
open Go Go.RowKit Go.PP Go.Deep
variable [GlobW]
def Opens (P:Program) (t:TypeId) (n:Nat) {α:Type} (f:α→List D) (ok:α→Prop):Prop:=
 P.cellsOf t=n∧(∀ y,(f y).length=n)∧ ∀ (H:Type) (enc:TypeId × Value→H) (w:World) (base:Nat) (held:Bool) (fuel:Nat) (cs:List Value) (x:DataW H × List MemPlace),
    DataW.trod enc P w base (fun _=>true) held fuel t cs=some x→(∀ m∈x.1.weights P t,m≤reachBytes)→ ∃ y,RepL (fun _=>False) w none (f y) cs∧ok y
section
variable {P:Program} {t e:TypeId}
theorem Opens.int {k:IntKind} (ht:P.underlying t=some (.int k)) (hc:P.cellsOf t=1):Opens P t 1 (fun z:Int=> [.flat (.int k z)]) (fun z=>(Lit.int k z).wf=true):=
 ⟨hc,fun _=>rfl,fun H enc w base held fuel cs x h _=>by
  obtain⟨z,rfl,hx,hw⟩:=DataW.trod_int ht h
  exact⟨z,by simp only [RepL,Rep];exact⟨_,_,rfl,rfl,rfl⟩,hw⟩⟩
theorem Opens.bool (ht:P.underlying t=some .bool) (hc:P.cellsOf t=1):Opens P t 1 (fun z:Bool=> [.flat (.bool z)]) (fun _=>True):=
 ⟨hc,fun _=>rfl,fun H enc w base held fuel cs x h _=>by
  obtain⟨z,rfl,hx⟩:=DataW.trod_bool ht h
  exact⟨z,by simp only [RepL,Rep];exact⟨_,_,rfl,rfl,rfl⟩,trivial⟩⟩
theorem d4_ {H:Type} {e:TypeId}:∀ {ds:List (DataW H)} {d:DataW H},d∈ds→ ∀ m∈d.weights P e,m∈DataW.weightsAll P e ds
 |d0::ds,d,h,m,hm=>by
  simp only [DataW.weightsAll,List.mem_append]
  rcases List.mem_cons.1 h with rfl|h
  ·exact .inl hm
  ·exact .inr (d4_ h m hm)
theorem jv_ {α:Type} {n:Nat} (f:α→List D) (hf:∀ y,(f y).length=n):∀ {ys:List α} {i k:Nat} {y:α},ys[i]?=some y→k<n→(ys.flatMap f)[i*n+k]?=(f y)[k]?
 | [],i,k,y,h,hk=>by simp at h
 |a::ys,0,k,y,h,hk=>by
  simp at h;subst h
  rw [List.flatMap_cons,List.getElem?_append_left (by rw [hf];omega)]
  simp
 |a::ys,i+1,k,y,h,hk=>by
  rw [List.flatMap_cons,List.getElem?_append_right (by rw [hf,Nat.add_mul];omega),hf,show (i+1)*n+k - n=i*n+k by rw [Nat.add_mul];omega]
  exact jv_ f hf (by simpa using h) hk
theorem d0_ {α:Type} {n:Nat} (f:α→List D) (hf:∀ y,(f y).length=n):∀ ys:List α,(ys.flatMap f).length=ys.length*n
 | []=>by simp
 |a::ys=>by rw [List.flatMap_cons,List.length_append,hf,d0_ f hf ys,List.length_cons,Nat.add_mul];omega
theorem Opens.slice {n bytes:Nat} {α:Type} {f:α→List D} {ok:α→Prop} (ht:P.underlying t=some (.slice e)) (hc:P.cellsOf t=1) (hn:0<n) (hb:P.bytesOf e=bytes) (h:Opens P e n f ok):
    Opens P t 1 (fun ys:List α=> [.sl false n ys.length (ys.flatMap f)]) (fun ys=>ys.length*bytes≤140737488351232∧ ∀ y∈ys,ok y):=
  ⟨hc, fun _ =>rfl,fun H enc w base held fuel cs x hx hw=>by
    obtain⟨hcn,hfl,h⟩:=h
    rcases DataW.trod_slice ht hx with⟨rfl,rfl⟩| ⟨a,len,cap,elems,rest,m,rfl,rfl,rfl,hbl,hle,hmx,hel,hee,hsp,_⟩
    ·exact⟨[],by simp only [RepL,Rep];exact⟨_,_,rfl,⟨none,0,rfl,Nat.le_refl _,fun h=>(by cases h),by simp,by simp,.inl (by simp)⟩,rfl⟩,by simp,by simp⟩
    · have hw0:(elems.length+rest.length)*bytes≤reachBytes:=by
        have:=hw ((elems.length+rest.length)*bytes) (by simp [DataW.weights,ht,hb])
        exact this
      have h2:reachBytes=140737488351232:=by decide
      have each:∀ i,i<len→ ∃ y:α,(∀ k,k<n→ ∃ u,w.cell? (a.add (i*n+k))=some u∧ ∀ d,(f y)[k]?=some d→Rep (fun _=>False) w none d u)∧ok y:=by
        intro i hi
        have:=hee i hi
        rw [hcn] at this
        have he:elems[i]?=some (elems[i]'(by omega)):=List.getElem?_eq_getElem (by omega)
        rw [he] at this
        cases hcs:w.cells? base (a.add (i*n)) n with
        |none=>rw [hcs] at this;cases this
        | some cs'=>
          rw [hcs] at this
          simp only [Option.bind_some] at this
          obtain⟨hlen,hcell⟩:=(World.cells?_some hcs).2
          obtain⟨y,hy,hok⟩:=h H enc w base held m cs' _ this (fun q hq=>hw q (by
            simp only [DataW.weights,ht,List.mem_cons,List.mem_append]
            refine .inr (.inl (d4_ (d:=(elems[i]'(by omega)).1) (List.mem_map.2 ⟨_,List.getElem_mem _,rfl⟩) q hq))))
          refine⟨y,fun k hk=>?_,hok⟩
          have hc1:=hcell k (by omega)
          rw [add_add] at hc1
          refine⟨cs'[k]'(by omega),by rw [hc1];exact List.getElem?_eq_getElem (by omega),fun d hd=>?_⟩
          obtain⟨u,hu,hr⟩:=hy.get k hd
          rw [List.getElem?_eq_getElem (by omega)] at hu
          cases hu
          exact hr
      by_cases hl0:len=0
      · subst hl0
        exact⟨[],by simp only [RepL,Rep];exact⟨_,_,rfl,⟨some a,cap,rfl,Nat.zero_le _,fun h=>(by cases h),by simp,by simp,.inl (by simp)⟩,rfl⟩,by simp,by simp⟩
      · obtain⟨y0,_,_⟩:=each 0 (by omega)
        have:Inhabited α:=⟨y0⟩
        obtain⟨g,hg⟩:=choose_lt each
        obtain⟨b,off,spot⟩:=a
        have hspot:spot=none:=by
          obtain⟨u,hu,_⟩:=(hg 0 (by omega)).1 0 hn
          have:=World.cell?_spot hu
          simpa [Addr.add] using this
        subst hspot
        refine⟨(List.range len).map g,?_,?_,?_⟩
        · simp only [RepL,Rep]
          refine⟨_,_,rfl,⟨some ⟨b,off,none⟩,cap,by simp,by simpa using hle,fun h=>(by cases h),by rw [d0_ f hfl],by unfold maxLen at hmx;simp;omega,.inr ⟨b,off,rfl,id,RepC.of fun q d hd=>?_⟩⟩,rfl⟩
          have hq:=(List.getElem?_eq_some_iff.1 hd).1
          rw [d0_ f hfl] at hq
          simp only [List.length_map,List.length_range] at hq
          obtain⟨i,k,hi,hk,rfl⟩:∃ i k,i<len∧k<n∧q=i*n+k:=⟨q / n,q % n,Nat.div_lt_of_lt_mul (by rw [Nat.mul_comm];exact hq),Nat.mod_lt _ hn,by rw [Nat.mul_comm];exact (Nat.div_add_mod q n).symm⟩
          rw [jv_ f hfl (i:=i) (k:=k) (y:=g i) (by simp [hi]) hk] at hd
          obtain⟨u,hu,hr⟩:=(hg i hi).1 k hk
          refine⟨u,?_,hr d hd⟩
          rw [show (⟨b,off,none⟩:Addr).add (i*n+k)=⟨b,off+(i*n+k),none⟩ from by unfold Addr.add;split <;> simp_all] at hu
          exact hu
        · simp only [List.length_map,List.length_range]
          have:len*bytes≤(elems.length+rest.length)*bytes:=Nat.mul_le_mul_right _ (by omega)
          omega
        · intro y hy
          obtain⟨i,hi,rfl⟩:=List.mem_map.1 hy
          exact (hg i (by simpa using hi)).2⟩
theorem Opens.triple {f0 f1 f2:Field} {n0 n1 n2:Nat} {α β γ:Type} {g0:α→List D} {g1:β→List D} {g2:γ→List D} {ok0:α→Prop} {ok1:β→Prop} {ok2:γ→Prop} (ht:P.underlying t=some (.struct #[f0,f1,f2])) (hc:P.cellsOf t=n0+n1+n2) (o0:f0.offset=0) (o1:f1.offset=n0) (o2:f2.offset=n0+n1) (h0:Opens P f0.type n0 g0 ok0) (h1:Opens P f1.type n1 g1 ok1) (h2:Opens P f2.type n2 g2 ok2):
  Opens P t (n0+n1+n2) (fun p:α × β × γ=>g0 p.1++g1 p.2.1++g2 p.2.2) (fun p=>ok0 p.1∧ok1 p.2.1∧ok2 p.2.2):=
 ⟨hc,fun p=>by rw [List.length_append,List.length_append,h0.2.1,h1.2.1,h2.2.1],fun H enc w base held fuel cs x h hw=>by
  obtain⟨xs,m,rfl,rfl,hl,hx,hi⟩:=DataW.trod_struct ht h
  rw [hc] at hl
  have hx2:xs.length=3:=hx
  have i0:=hi 0 f0 rfl
  have i1:=hi 1 f1 rfl
  have i2:=hi 2 f2 rfl
  rw [o0,h0.1,List.drop_zero,List.getElem?_eq_getElem (by omega)] at i0
  rw [o1,h1.1,List.getElem?_eq_getElem (by omega)] at i1
  rw [o2,h2.1,List.getElem?_eq_getElem (by omega)] at i2
  have hwe:∀ (j:Nat) (u:TypeId) (d:DataW H),[f0.type,f1.type,f2.type][j]?=some u→(xs.map (·.1))[j]?=some d→ ∀ q∈d.weights P u,q≤reachBytes:=fun j u d h1 h2 q hq=>hw q (by
   simp only [DataW.weights,ht]
   exact DataW.weights_mem_each (j:=j) (t:=u) (d:=d) h1 h2 q hq)
  obtain⟨y0,r0,k0⟩:=h0.2.2 H enc w base held m _ _ i0 (hwe 0 f0.type _ rfl (by simp [hx2]))
  obtain⟨y1,r1,k1⟩:=h1.2.2 H enc w base held m _ _ i1 (hwe 1 f1.type _ rfl (by simp [hx2]))
  obtain⟨y2,r2,k2⟩:=h2.2.2 H enc w base held m _ _ i2 (hwe 2 f2.type _ rfl (by simp [hx2]))
  refine⟨(y0,y1,y2),?_,k0,k1,k2⟩
  have e1:(cs.drop (n0+n1)).take n2=cs.drop (n0+n1):=List.take_of_length_le (by simp;omega)
  rw [e1] at r2
  have:=RepL.append (RepL.append r0 r1) r2
  have e:cs.take n0++(cs.drop n0).take n1++cs.drop (n0+n1)=cs:=by rw [← List.drop_drop,List.append_assoc,List.take_append_drop,List.take_append_drop]
  rwa [e] at this⟩
theorem RepL.flat {M:Nat→Prop} {w:World} {n:Nat} {α:Type} (f:α→List D):∀ (ys:List α) (cs:List Value),(∀ y,(f y).length=n)→cs.length=ys.length*n→(∀ (i:Nat) (y:α),ys[i]?=some y→RepL M w none (f y) ((cs.drop (i*n)).take n))→RepL M w none (ys.flatMap f) cs
 | [],cs,hn,hl,h=>by
   simp only [List.flatMap_nil,RepL]
   exact List.eq_nil_of_length_eq_zero (by simpa using hl)
 | y::ys,cs,hn,hl,h=>by
   rw [List.flatMap_cons]
   have h0:=h 0 y rfl
   rw [Nat.zero_mul,List.drop_zero] at h0
   have h1:=RepL.flat f ys (cs.drop n) hn (by simp [hl,Nat.add_mul]) (fun i z hz=>by
    have:=h (i+1) z (by simpa using hz)
    rwa [Nat.add_mul,Nat.one_mul,Nat.add_comm,← List.drop_drop] at this)
   have:=RepL.append h0 h1
   rwa [List.take_append_drop] at this
theorem Opens.array {len n:Nat} {α:Type} {f:α→List D} {ok:α→Prop} (ht:P.underlying t=some (.array len e)) (hc:P.cellsOf t=len*n) (hlen:0<len) (h:Opens P e n f ok):
  Opens P t (len*n) (fun ys:{ ys:List α // ys.length=len }=>ys.1.flatMap f) (fun ys=> ∀ y∈ys.1,ok y):=
 ⟨hc,fun ys=>by rw [d0_ f h.2.1,ys.2],fun H enc w base held fuel cs x hx hw=>by
  obtain⟨xs,m,rfl,rfl,hl,hxl,hi⟩:=DataW.trod_array ht hx
  rw [hc] at hl
  rw [h.1] at hi
  have   each:∀ i,i<len→ ∃ y:α,RepL (fun _=>False) w none (f y) ((cs.drop (i*n)).take n)∧ok y:=fun i hil=>by
   have:=hi i hil
   rw [List.getElem?_eq_getElem (by omega)] at this
   exact h.2.2 H enc w base held m _ _ this (fun q hq=>hw q (by
        simp only [DataW.weights,ht]
        exact d4_ (List.mem_map.2 ⟨_,List.getElem_mem _,rfl⟩) q hq))
  obtain⟨y0,_,_⟩:=each 0 hlen
  have:Inhabited α:=⟨y0⟩
  obtain⟨g,hg⟩:=choose_lt each
  refine⟨⟨(List.range len).map g,by simp⟩,RepL.flat f _ cs h.2.1 (by simp [hl]) fun i y hy=>?_,fun y hy=>?_⟩
  ·have  hil:i<len:=by
        have:=(List.getElem?_eq_some_iff.1 hy).1
        simpa using this
   simp [hil] at hy
   subst hy
   exact (hg i hil).1
  ·obtain⟨i,hil,rfl⟩:=List.mem_map.1 hy
   exact (hg i (by simpa using hil)).2⟩
theorem Opens.one {α:Type} {f:α→D} {ok:α→Prop} (h:Opens P t 1 (fun y=> [f y]) ok) {H:Type} {enc:TypeId × Value→H} {w:World} {base:Nat} {held:Bool} {v:Value} {d:DataW H} {ps:List MemPlace} (hv:v.cells= #[v]) (ht:DataW.Trod enc P w base (fun _=>true) held t v d ps) (hw:∀ m∈d.weights P t,m≤reachBytes):∃ y,Rep (fun _=>False) w none (f y) v∧ok y:=by
 obtain⟨fuel,hf⟩:=ht
 obtain⟨y,hy,hk⟩:=h.2.2 H enc w base held fuel _ _ hf hw
 rw [hv] at hy
 simp only [RepL] at hy
 obtain⟨u,us,he,hr,_⟩:=hy
 simp only [List.cons.injEq] at he
 rw [he.1]
 exact⟨y,hr,hk⟩
theorem Opens.agg {n:Nat} {α:Type} {f:α→List D} {ok:α→Prop} (h:Opens P t n f ok) {H:Type} {enc:TypeId × Value→H} {w:World} {base:Nat} {held:Bool} {cs:Array Value} {d:DataW H} {ps:List MemPlace} (ht:DataW.Trod enc P w base (fun _=>true) held t (.agg cs) d ps) (hw:∀ m∈d.weights P t,m≤reachBytes):∃ y,Rep (fun _=>False) w none (.agg (f y)) (.agg cs)∧ok y:=by
 obtain⟨fuel,hf⟩:=ht
 obtain⟨y,hy,hk⟩:=h.2.2 H enc w base held fuel _ _ hf hw
 refine⟨y,?_,hk⟩
 simp only [Rep]
 exact⟨cs.toList,by simp,hy⟩
end
theorem yi_ {P:Program} {k:FuncId} {args:List D} {v:Value} (h:DFun P k args (.flat v)) {w:World} (hg:GlW w) {vals:List Value} (hv:RepL (fun _=>False) w none args vals):Calls P k vals.toArray w (fun e w'=>e= .returned v∧Fix w w'):=
 (h.go (fun _=>False) w vals (fun _ h=>h.elim) hv hg).mono fun e w' ⟨u,h1,h2,h3⟩=>⟨by simp only [Rep] at h2;rw [h1,h2],h3⟩
end Go.Dm
namespace Go.Dm
open Go Go.RowKit Go.PP
variable [GlobW]
def selC:List Nat→Code→Option Code
 | [],c=>some c
 |0::p,.seq a _=>selC p a
 |1::p,.seq _ b=>selC p b
 |0::p,.cond _ a _=>selC p a
 |1::p,.cond _ _ b=>selC p b
 |2::p,.block _ c=>selC p c
 |2::p,.loop c=>selC p c
 |3::p,.rangeFunc _ _ a _=>selC p a
 |4::p,.rangeFunc _ _ _ b=>selC p b
 |_,_=>none
theorem DW.sel [Rnd] {P:Program} {N:Nat} {p:List Nat} {b c c0:Code} {s:DS} {Q:Exit→DS→Prop} (h:selC p b=some c) (h0:selC p b=some c0) (k:DW P N c0 s Q):DW P N c s Q:=by
 rw [h] at h0
 cases h0
 exact k
section
variable {P:Program} {N:Nat}
theorem Aft.n {s:DS} {Q:Exit→DS→Prop} (h:Q .normal s):Aft P N none s Q:=h
theorem Aft.r {s:DS} {Q:Exit→DS→Prop} (h:Q .ret s):Aft P N (some .ret) s Q:=DW.ret h
end
end Go.Dm
set_option maxHeartbeats 800000
namespace Go.Dm
open Go Go.RowKit Go.PP
variable [GlobW] [Rnd]
theorem oq_ {M0:Nat→Prop} {g:Gh} {σ:Sg} {id:Nat} {b:Nat} (h:Mx M0 g ((id,some .dead)::σ) b):Mx M0 g σ b:=by
 rcases h with h| ⟨k,hk⟩
 ·exact .inl h
 ·refine .inr ⟨k,?_⟩
  unfold blkOf at hk ⊢
  rw [aa_] at hk
  by_cases e:id=k
  ·rw [if_pos e] at hk;cases hk
  ·rw [if_neg e] at hk;exact hk
theorem StG.kill {w0 w:World} {M0:Nat→Prop} {B0:Bd} {N:Nat} {g:Gh} {f:Fr} {σ:Sg} {a:Act} {id e n L t:Nat} {cs:List D} (hs:StG w0 M0 B0 N g ⟨f,σ⟩ a w) (ha:lkE σ id=some (.row e n L cs)) (hp:persL cs=true) (ht:lkF f t= .own id L):
    StG w0 M0 B0 N g ⟨(t,.sl false n L cs)::f,(id,some .dead)::σ⟩ a w:=by
  have hsub:∀ k x,blkOf g ((id,some .dead)::σ) k=some x→blkOf g σ k=some x∧k≠id:=fun k x hk=>by
    unfold blkOf at hk ⊢
    rw [aa_] at hk
    by_cases q:id=k
    ·rw [if_pos q] at hk;cases hk
    ·rw [if_neg q] at hk;exact⟨hk,fun h=>q h.symm⟩
  have hne:∀ k x,lkE ((id,some .dead)::σ) k=some x→(k=id∧x= .dead)∨(k≠id∧lkE σ k=some x):=fun k x hk=>by
    rw [aa_] at hk
    by_cases q:id=k
    ·rw [if_pos q] at hk;exact .inl ⟨q.symm,(Option.some.inj hk).symm⟩
    ·rw [if_neg q] at hk;exact .inr ⟨fun h=>q h.symm,hk⟩
  have hG:GrowO (some (g,σ)) (some (g,(id,some .dead)::σ)):=⟨fun k c1 hk=>by
      have hne:¬ id=k:=fun e1=>by subst e1;simp only at hk;rw [ha] at hk;cases hk
      exact⟨⟨c1,by rw [aa_,if_neg hne];exact hk⟩,rfl⟩,fun k e1 n1 l1 c1 hk=>by
      by_cases e2:id=k
      ·subst e2;exact .inl (by rw [aa_,if_pos rfl])
      ·exact .inr ⟨e1,n1,l1,c1,by rw [aa_,if_neg e2];exact hk,Nat.le_refl _,fun _=>rfl⟩,fun k hk=>by
      by_cases e2:id=k
      ·subst e2;rw [aa_,if_pos rfl]
      · simp only at hk ⊢
        rw [aa_,if_neg e2];exact hk⟩
  have hr:∀ d v,Rep (Mx M0 g σ) w (some (g,σ)) d v→Rep (Mx M0 g ((id,some .dead)::σ)) w (some (g,(id,some .dead)::σ)) d v:=fun d v q=>Rep.step hG (Mut.refl (fun _=>False) w) (fun _ _ e=>e.elim) (fun _ _ q=>oq_ q) d v q
  have hrl:∀ d v,RepL (Mx M0 g σ) w (some (g,σ)) d v→RepL (Mx M0 g ((id,some .dead)::σ)) w (some (g,(id,some .dead)::σ)) d v:=fun d v q=>RepL.step hG (Mut.refl (fun _=>False) w) (fun _ _ e=>e.elim) (fun _ _ q=>oq_ q) d v q
  refine⟨hs.chg,hs.m0,?_,hs.sz,fun k=>?_,fun k x he=>?_,fun k k' x q1 q2=>hs.sep k k' x (hsub k x q1).1 (hsub k' x q2).1,fun k x q=>hs.new k x (hsub k x q).1,fun k=>⟨fun ds q=>?_,fun e' n' len ds q=>?_⟩,hs.glo⟩
  · obtain⟨Ds,h1,h2,h3⟩:=hs.df
    exact⟨Ds,h1,h2,fun D hD=>⟨(h3 D hD).1,fun k q=>(h3 D hD).2 k (hsub k D q).1⟩⟩
  · show Rep _ w _ (lkF ((t,.sl false n L cs)::f) k) _
    simp only [lkF]
    by_cases hk:t=k
    · subst hk
      simp only [beq_self_eq_true,cond_true]
      have h0:=hs.tm t
      rw [show lkF (DS.f ⟨f,σ⟩) t= .own id L from ht] at h0
      obtain⟨hu,vs,o1,o2⟩:=e6_ hs ha h0
      have o3:=(o2.down cs vs hp)
      have hl:=o1.1
      rw [← o3.length] at hl
      simp only [Rep]
      rcases ek_ o1 with⟨q1,q2⟩| ⟨b,o,cap,q1,q2,q3,q4⟩
      · subst q2
        exact⟨none,0,q1,Nat.le_refl _,fun e=>(by cases e),hl,by omega,.inl (by simp)⟩
      · refine⟨_,cap,q1,q2,fun e=>(by cases e),hl,by unfold maxLen at q3;omega,?_⟩
        refine .inr ⟨b,o,rfl,?_,RepC.of fun i d hd=>?_⟩
        · have hb:blkOf g σ id=some b:=by unfold blkOf;rw [ha];show (g.row id).ownBlock=_;rw [← hu,q1];rfl
          rintro (hq| ⟨id',hq1⟩)
          ·exact (hs.new id b hb).2.2 hq
          · obtain⟨h1,h2⟩:=hsub id' b hq1
            exact h2 (hs.sep id' id b h1 hb)
        · obtain⟨u,hu2,hr2⟩:=o3.get i hd
          exact⟨u,q4 i u hu2,Rep.mono hr2 fun b _ h=>oq_ h⟩
    · rw [show (t == k)=false by simpa using hk]
      simp only [cond_false]
      exact hr _ _ (hs.tm k)
  · rcases hne k x he with⟨rfl,rfl⟩| ⟨h1,h2⟩
    ·trivial
    · have h0:=hs.ent k x h2
      cases x with
      |box cs=>obtain⟨vs,o,q1,q2,q3⟩:=h0;exact⟨vs,o,q1,hrl _ _ q2,q3⟩
      |row e n len cs=>obtain⟨vs,q1,q2⟩:=h0;exact⟨vs,q1,hrl _ _ q2⟩
      |dead=>trivial
  · rcases hne k _ q with⟨-,h⟩| ⟨h1,h2⟩
    ·cases h
    ·exact (hs.anc k).1 ds h2
  · rcases hne k _ q with⟨-,h⟩| ⟨h1,h2⟩
    ·cases h
    ·exact (hs.anc k).2 e' n' len ds h2
theorem StG.moveRow {w0 w:World} {M0:Nat→Prop} {B0:Bd} {N:Nat} {g:Gh} {f:Fr} {σ:Sg} {act:Act} {a b e n L L':Nat} {cs cs':List D} {vs':List Value} {v':Value} (hs:StG w0 M0 B0 N g ⟨f,σ⟩ act w) (ha:lkE σ a=some (.row e n L cs)) (hb:lkE σ b=none) (hid:newId N b=true)
  (hown:OwnR w e n v' L' vs') (hrep:RepL (Mx M0 g σ) w (some (g,σ)) cs' vs') (hblk:∀ x,v'.ownBlock=some x→(g.row a).ownBlock=some x):
  StG w0 M0 B0 N ⟨g.blk,fun k=>if k=b then v' else g.row k⟩ ⟨f,(a,some .dead)::(b,some (.row e n L' cs'))::σ⟩ act w:=by
 have hab:a≠b:=fun q=>by rw [q,hb] at ha;cases ha
 obtain⟨g',hg'⟩:∃ g':Gh,g'=⟨g.blk,fun k=>if k=b then v' else g.row k⟩:=⟨_,rfl⟩
 rw [← hg']
 have gb:g'.blk=g.blk:=by rw [hg']
 have gr:∀ k,g'.row k=if k=b then v' else g.row k:=by rw [hg'];intro k;rfl
 clear hg'
 generalize hσ:(a,some Ent.dead)::(b,some (Ent.row e n L' cs'))::σ=σ'
 have l:∀ k,lkE σ' k=if a=k then some Ent.dead else if b=k then some (Ent.row e n L' cs') else lkE σ k:=by
  intro k;rw [← hσ,aa_,aa_]
 have la:lkE σ' a=some .dead:=by rw [l,if_pos rfl]
 have lb:lkE σ' b=some (.row e n L' cs'):=by rw [l,if_neg hab,if_pos rfl]
 have lo:∀ k,k≠b→k≠a→lkE σ' k=lkE σ k:=fun k h2 h3=>by rw [l,if_neg (fun q=>h3 q.symm),if_neg (fun q=>h2 q.symm)]
 clear l hσ
 have hoa:blkOf g σ a=(g.row a).ownBlock:=by unfold blkOf;rw [ha]
 have hsub:∀ k x,blkOf g' σ' k=some x→ ∃ k',blkOf g σ k'=some x∧(k=b→k'=a)∧(k≠b→k'=k∧k≠a):=fun k x q=>by
  by_cases h1:k=a
  ·subst h1;unfold blkOf at q;rw [la] at q;cases q
  ·by_cases h2:k=b
   ·    subst h2
        unfold blkOf at q
        rw [lb] at q
        simp only [gr,if_true] at q
        exact⟨a,by rw [hoa];exact hblk x q,fun _=>rfl,fun h=>absurd rfl h⟩
   ·    refine⟨k,?_,fun h=>absurd h h2,fun _=>⟨rfl,h1⟩⟩
        unfold blkOf at q ⊢
        rw [lo k h2 h1,gb,gr,if_neg h2] at q
        exact q
 have hM:∀ x,Mx M0 g' σ' x→Mx M0 g σ x:=fun x h=>h.imp id fun⟨k,q⟩=>by
  obtain⟨k',q', -, -⟩:=hsub k x q;exact⟨k',q'⟩
 have hG :GrowO (some (g,σ)) (some (g',σ')):=by
  refine⟨fun k ds q=>⟨⟨ds,?_⟩,by rw [gb]⟩,fun k e' n' len ds q=>?_,fun k q=>?_⟩
  ·have q:lkE σ k=_:=q
   show lkE σ' k=_
   rw [lo k (fun h=>by rw [h,hb] at q;cases q) (fun h=>by rw [h,ha] at q;cases q)];exact q
  ·have  q:lkE σ k=some (.row e' n' len ds):=q
   show lkE σ' k=some .dead∨_
   by_cases h1:k=a
   ·subst h1;exact .inl la
   ·    have h2:k≠b:=fun h=>by rw [h,hb] at q;cases q
        exact .inr ⟨e',n',len,ds,by show lkE σ' k=_;rw [lo k h2 h1];exact q,Nat.le_refl _,fun _=>by show g'.row k=g.row k;rw [gr,if_neg h2]⟩
  ·have q:lkE σ k=some .dead:=q
   show lkE σ' k=_
   rw [lo k (fun h=>by rw [h,hb] at q;cases q) (fun h=>by rw [h,ha] at q;cases q)];exact q
 have hr:∀ d v,Rep (Mx M0 g σ) w (some (g,σ)) d v→Rep (Mx M0 g' σ') w (some (g',σ')) d v:=fun d v q=>Rep.step hG (Mut.refl (fun _=>False) w) (fun _ _ e=>e.elim) (fun x _ q=>hM x q) d v q
 have hrl:∀ d v,RepL (Mx M0 g σ) w (some (g,σ)) d v→RepL (Mx M0 g' σ') w (some (g',σ')) d v:=fun d v q=>RepL.step hG (Mut.refl (fun _=>False) w) (fun _ _ e=>e.elim) (fun x _ q=>hM x q) d v q
 refine⟨hs.chg,hs.m0,?_,hs.sz,fun t=>hr _ _ (hs.tm t),fun k x he=>?_,fun k k' x q1 q2=>?_,fun k x q=>?_,fun k=>⟨fun ds q=>?_,fun e' n' len ds q=>?_⟩,hs.glo⟩
 ·obtain⟨Ds,h1,h2,h3⟩:=hs.df
  exact⟨Ds,h1,h2,fun D hD=>⟨(h3 D hD).1,fun k q=>by
   obtain⟨k',q', -, -⟩:=hsub k D q
   exact (h3 D hD).2 k' q'⟩⟩
 ·have   he:lkE σ' k=some x:=he
  show EntOk (Mx M0 g' σ') w g' σ' k x
  by_cases h2:k=b
  ·subst h2
   rw [lb] at he;cases he
   exact⟨vs',by rw [gr,if_pos rfl];exact hown,hrl _ _ hrep⟩
  ·by_cases h1:k=a
   ·subst h1;rw [la] at he;cases he;trivial
   ·    rw [lo k h2 h1] at he
        have h0:=hs.ent k x he
        cases x with
        |box ds=>obtain⟨vs,o,q1,q2,q3⟩:=h0;exact⟨vs,o,by rw [gb];exact q1,hrl _ _ q2,q3⟩
        |row e' n' len ds=>obtain⟨vs,q1,q2⟩:=h0;exact⟨vs,by rw [gr,if_neg h2];exact q1,hrl _ _ q2⟩
        |dead=>trivial
 ·obtain⟨k1,p1,p2,p3⟩:=hsub k x q1
  obtain⟨k2,p4,p5,p6⟩:=hsub k' x q2
  have hk:=hs.sep k1 k2 x p1 p4
  by_cases h1:k=b
  ·by_cases h2:k'=b
   ·rw [h1,h2]
   ·exact absurd ((p6 h2).1.symm.trans (hk.symm.trans (p2 h1))) (p6 h2).2
  ·by_cases h2:k'=b
   ·exact absurd ((p3 h1).1.symm.trans (hk.trans (p5 h2))) (p3 h1).2
   ·rw [← (p3 h1).1,hk,(p6 h2).1]
 ·obtain⟨k',q', -, -⟩:=hsub k x q
  exact hs.new k' x q'
 ·have   q:lkE σ' k=some (.box ds):=q
  show newId N k=true∨B0.box k (g'.blk k)
  rw [gb]
  by_cases h2:k=b
  ·subst h2;exact .inl hid
  ·by_cases h1:k=a
   ·subst h1;rw [la] at q;cases q
   ·    rw [lo k h2 h1] at q
        exact (hs.anc k).1 ds q
 ·have   q:lkE σ' k=some (.row e' n' len ds):=q
  show newId N k=true∨B0.row k len (g'.row k)
  by_cases h2:k=b
  ·subst h2;exact .inl hid
  ·by_cases h1:k=a
   ·subst h1;rw [la] at q;cases q
   ·    rw [lo k h2 h1] at q
        rw [gr,if_neg h2]
        exact (hs.anc k).2 e' n' len ds q
theorem Sub.ren {N:Nat} {σ:Sg} {f:Fr} {t a b e n L:Nat} {cs:List D} (ht:lkF f t= .own a L) (ha:lkE σ a=some (.row e n L cs)) (hb:lkE σ b=none) (hid:newId N b=true:=by first|exact rfl|decide +kernel):
  Sub N ⟨f,σ⟩ ⟨(t,.own b L)::f,(a,some .dead)::(b,some (.row e n L cs))::σ⟩:=by
 intro w0 M0 B0 act w ⟨g,hs⟩
 have hab:a≠b:=fun q=>by rw [q,hb] at ha;cases ha
 have h0:=hs.tm t
 rw [show lkF (DS.f ⟨f,σ⟩) t= .own a L from ht] at h0
 obtain⟨hu,vs,o1,o2⟩:=e6_ hs ha h0
 rw [hu] at o1
 have h1:=hs.moveRow (b:=b) ha hb hid o1 o2 (fun x h=>h)
 obtain⟨_,_,_,_,ad,c,hu2⟩:=by simpa only [Rep] using h0
 refine⟨_,h1.setF t (.own b L) ?_⟩
 simp only [Rep]
 exact⟨_,_,rfl,.inr ⟨e,n,L,cs,by rw [aa_,if_neg hab,aa_,if_pos rfl],Nat.le_refl _,fun _=>by show _=(if b=b then g.row a else g.row b);rw [if_pos rfl];exact hu⟩,ad,c,hu2⟩
section
variable {P:Program} {N:Nat} {dst:Option Tmp} {ty:TypeId} {pos:String} {af:Array Edge} {gd:Option (Nat × Bool)}
theorem T.cutOwnL {id id2 e n L l:Nat} {lo:Int} {k:IntKind} {cs:List D} (t:TypeId) (x y:Operand) (ht:P.underlying t=some (.slice e)) (hn:sizeOfT P e=some n) (n1:IsN lo l) (h2:l≤L) (h0:0<L) (hid:newId N id2=true:=by first|exact rfl|decide +kernel):
  Tri P N ⟨dst,.slice t x (some y) none none,ty,pos,af,gd⟩ [(x,.own id L),(y,.flat (.int k lo))] [(id,some (.row e n L cs)),(id2,none)] (.own id2 (L - l)) [(id,some .dead),(id2,some (.row e n (L - l) (cs.drop (l*n))))]:=by
 obtain⟨rfl⟩:=n1
 refine⟨?_⟩
 intro w0 M0 B0 s a w next Q h1 h3 hd ⟨g,hs⟩ hk
 have he:=h3.1
 have he2:lkE s.σ id2=none:=h3.2.1
 have hvx:=hs.eval x
 have hvy:=hs.eval y
 rw [show evalD s.f x= .own id L from h1.1] at hvx
 rw [show evalD s.f y= .flat (.int k ((l:Nat):Int)) from h1.2.1] at hvy
 simp only [Rep] at hvy
 obtain⟨hu,vs,o1,o2⟩:=e6_ hs he hvx
 have hab:id≠id2:=fun q=>by rw [q,he2] at he;cases he
 have hvl:=o1.1
 rcases o1.2 with⟨q1,q2⟩| ⟨b,o,cap,cur,fz,q1,q3,q4,q5,q6,q7,q8⟩
 ·omega
 have hr:=run_slice_l (P:=P) w t (some ⟨b,o,none⟩) L cap (by rw [jg_ ht];exact ht) k l (by omega) (by omega)
 rw [jg_ ht,bt_ hn] at hr
 simp only [Result.andThen_ok,Int.toNat_natCast] at hr
 obtain  ⟨o',ho',hown,hex⟩:∃ o',(cap=l→o'=o)∧OwnR w e n (.slice (some ⟨b,o',none⟩) (L - l) (cap - l)) (L - l) (vs.drop (l*n))∧(execOp a.eval ⟨dst,.slice t x (some y) none none,ty,pos,af,gd⟩).run P w= .ok (.value (.slice (some ⟨b,o',none⟩) (L - l) (cap - l))) w:=by
  have hdl:(vs.drop (l*n)).length=(L - l)*n:=by rw [List.length_drop,hvl,Nat.sub_mul]
  by_cases hc:cap=l
  ·refine⟨o,fun _=>rfl,⟨hdl,.inr ⟨b,o,cap - l,cur,fz,rfl,q3,q4,by omega,by omega,?_,?_⟩⟩,?_⟩
   ·    rw [show cap - l=0 by omega]
        have:o≤o+cap*n:=Nat.le_add_right _ _
        omega
   ·    have h4:(L - l)*n=0:=by rw [show L - l=0 by omega,Nat.zero_mul]
        rw [h4] at hdl ⊢
        rw [List.eq_nil_of_length_eq_zero hdl];rfl
   ·    simp only [execOp,q1,hvy,Option.map_none,Option.map_some,Sem.run_bind,k8_ (P:=P) (n:=n) ht hr,Result.andThen_ok,Sem.run_pure]
        simp [sliced,hc]
  ·refine⟨o+l*n,fun h=>absurd h hc,⟨hdl,.inr ⟨b,o+l*n,cap - l,cur,fz,rfl,q3,q4,by omega,by omega,?_,?_⟩⟩,?_⟩
   ·    have h4:cap*n=l*n+(cap - l)*n:=by rw [← Nat.add_mul];congr 1;omega
        omega
   ·rw [← q8,List.drop_take,List.drop_drop,Nat.sub_mul]
   ·    simp only [execOp,q1,hvy,Option.map_none,Option.map_some,Sem.run_bind,k8_ (P:=P) (n:=n) ht hr,Result.andThen_ok,Sem.run_pure]
        simp [sliced,hc,ct_]
 refine cy_ hex ?_
 have h5:=StG.moveRow (f:=s.f) (σ:=s.σ) hs he he2 hid hown (o2.drop (l*n)) (fun y hy=>by
  rw [← hu,q1]
  exact hy)
 refine hk _ _ ⟨_,h5.pure (Mut.refl _ w) hd ?_⟩
 simp only [Rep]
 exact⟨_,_,rfl,.inr ⟨e,n,L - l,_,by rw [aa_,if_neg hab,aa_,if_pos rfl],Nat.le_refl _,fun _=>by show _=(if id2=id2 then Value.slice (some ⟨b,o',none⟩) (L - l) (cap - l) else g.row id2);rw [if_pos rfl]⟩,_,_,rfl⟩
theorem T.appendGive {id e n L m bytes k:Nat} {z:Value} {f:Bool} {cs ds:List D} {dy:D} (t x y) (ht:P.underlying t=some (.slice e)) (hinfo:(P.info? e).map (fun i=>(i.zero,i.size,i.bytes))=some (some z,n,bytes)) (hzs:z.cells.size=n) (hsz:0<n) (hbp:0<bytes)
  (hle:Le dy (.sl f n m ds)) (ho:oneL ds=true) (hby:(L+m)*bytes≤140737488355328) (hp:persL (cs++ds)=true):
  Tri P N ⟨some k,.call { callee:= .builtin .append,args:= #[x,y],argTypes:= #[t,t] },ty,pos,af,gd⟩ [(x,.own id L),(y,dy)] [(id,some (.row e n L cs))] (.sl false n (L+m) (cs++ds)) [(id,some .dead)]:=by
 refine⟨?_⟩
 intro w0 M0 B0 s a w next Q h1 h2 hd hst hk
 refine (T.appendG (dst:=some k) (ty:=ty) (pos:=pos) (af:=af) (gd:=gd) (N:=N) t x y ht hinfo hzs hsz hbp hle ho hby).go w0 M0 B0 s a w next Q h1 h2 hd hst fun a' w' ⟨g,hg⟩=>?_
 have h3:lkE ([(id,some (Ent.row e n (L+m) (cs++ds)))]++s.σ) id=some (.row e n (L+m) (cs++ds)):=by
  show lkE ((id,_)::s.σ) id=_
  rw [aa_,if_pos rfl]
 have h4:=StG.kill (t:=k) hg h3 hp (by show lkF ((k,_)::s.f) k=_;simp [lkF])
 refine hk a' w' (St.congr (fun t=>?_) (fun t=>?_) ⟨g,h4⟩)
 ·show lkF ((k,_)::(k,_)::s.f) t=lkF ((k,_)::s.f) t
  simp only [lkF]
  cases (k == t) <;> rfl
 ·show lkE ((id,_)::(id,_)::s.σ) t=lkE ((id,_)::s.σ) t
  simp only [lkE]
  cases (id == t) <;> rfl
end
end Go.Dm
