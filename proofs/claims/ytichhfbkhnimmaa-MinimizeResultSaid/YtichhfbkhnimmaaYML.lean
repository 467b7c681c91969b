/- Automata, plainly: equal languages, equal minimal automata. No condition. -/
import Derived.Test.YtichhfbkhnimmaaYMG
set_option linter.unusedSimpArgs false
set_option linter.unusedVariables false
set_option maxHeartbeats 400000
namespace Go.Mn
open Go Go.Rt
open Classical in
noncomputable def viaT (A B:Au) (x:Int):Int:=if h:eh_ A x then ay_ B (Classical.choose h) else 0
theorem ta_ {A B:Au} {x:Int} (h:eh_ A x):∃ t,bc_ A.r t=0∧ay_ A t=x∧ay_ B t=viaT A B x:=by
 unfold viaT
 rw [dif_pos h]
 exact⟨_,(Classical.choose_spec h).1,(Classical.choose_spec h).2,rfl⟩
theorem xf_ {A B:Au} (hA:AuOk A) (hB:AuOk B) (hr:A.r=B.r) {i:Nat} {ds es:List Int} (hi:A.r[i]?=some (ds.length:Int)) (h:∃ l:List Tr,bq_ A.r l=0∧ax_ A l=ds∧ax_ B l=es):∃ t,bc_ A.r t=0∧ay_ A t=atI A i ds∧ay_ B t=atI B i es:=by
 obtain⟨l,h1,h2,h3⟩:=h
 have hlen:l.length=ds.length:=by rw [← h2,cv_,List.length_map]
 have hir:=(List.getElem?_eq_some_iff.1 hi).1
 refine⟨.node i l,?_,by rw [bb_,h2],by rw [bb_,h3]⟩
 rw [bc_,if_neg (by omega),if_neg ?_]
 ·exact h1
 ·rw [Int.toNat_natCast,List.getD_eq_getElem?_getD,hi,hlen];simp
theorem pf_ {A B:Au} {α:Type} {f g:α→Int}:∀ {l:List α},(∀ x∈l,∃ t,bc_ A.r t=0∧ay_ A t=f x∧ay_ B t=g x)→ ∃ ts:List Tr,bq_ A.r ts=0∧ax_ A ts=l.map f∧ax_ B ts=l.map g
 | [],_=>⟨[],by rw [bq_],by rw [ax_];rfl,by rw [ax_];rfl⟩
 |x::xs,h=>by
  obtain⟨t,h1,h2,h3⟩:=h x (by simp)
  obtain⟨ts,h4,h5,h6⟩:=pf_ fun y hy=>h y (List.mem_cons_of_mem _ hy)
  exact⟨t::ts,by rw [bq_,if_neg (by omega)];exact h4,by rw [ax_,h2,h5];rfl,by rw [ax_,h3,h6];rfl⟩
theorem vw_ {A B:Au} (hA:chk A=0) (hB:chk B=0) (hr:A.r=B.r) (hL:hr_ A B) {reps:List Int} (h:RepsOk A reps):RepsOk B (reps.map (viaT A B))∧quoA A reps=quoA B (reps.map (viaT A B)):=by
 have oA:=a4_ hA
 have oB:=a4_ hB
 have hv:∀ r∈reps,∃ t,bc_ A.r t=0∧ay_ A t=r∧ay_ B t=viaT A B r:=fun r hr'=>ta_ (ed_ oA (h.found r hr'))
 have hfB:∀ r∈reps,viaT A B r∈ac_ B:=fun r hr'=>by
  obtain⟨t,h1,h2,h3⟩:=hv r hr'
  rw [← h3]
  exact b3_ oB t (by rw [← hr];exact h1)
 have hvt:∀ r∈reps,∀ t,bc_ A.r t=0→(Eqv A r (ay_ A t)↔Eqv B (viaT A B r) (ay_ B t)):=fun r hr' t ht=>by
  obtain⟨u,h1,h2,h3⟩:=hv r hr'
  rw [← h3]
  have:=vo_ oA oB hr hL h1 ht
  rwa [h2] at this
 have hok:RepsOk B (reps.map (viaT A B)):=by
  refine⟨fun r hr'=>?_,?_,fun y hy=>?_⟩
  ·obtain⟨q,hq,rfl⟩:=List.mem_map.1 hr'
   exact hfB q hq
  ·rw [List.map_map,List.nodup_iff_pairwise_ne,List.pairwise_map]
   have:=h.nd
   rw [List.nodup_iff_pairwise_ne,List.pairwise_map] at this
   refine List.Pairwise.imp_of_mem ?_ this
   intro a b ha hb hne e
   obtain⟨u,h1,h2,h3⟩:=hv b hb
   have e2:=(di_ oB (av_ oB (hfB a ha)) (av_ oB (hfB b hb))).1 e
   rw [← h3] at e2
   have:=(hvt a ha u h1).2 e2
   rw [h2] at this
   exact hne ((di_ oA (h.inA oA a ha) (h.inA oA b hb)).2 this)
  ·obtain⟨t,h1,h2⟩:=ed_ oB hy
   have h1A:bc_ A.r t=0:=by rw [hr];exact h1
   have hfA:=b3_ oA t h1A
   obtain⟨r,hr',e⟩:=List.mem_map.1 (h.all _ hfA)
   have e2:=(hvt r hr' t h1A).1 ((di_ oA (h.inA oA r hr') (av_ oA hfA)).1 e)
   rw [List.map_map]
   refine List.mem_map.2 ⟨r,hr',?_⟩
   rw [h2] at e2
   exact (di_ oB (av_ oB (hfB r hr')) (av_ oB hy)).2 e2
 refine⟨hok,?_⟩
 unfold quoA
 rw [List.length_map,hr]
 unfold cj_
 congr 1
 ·refine List.map_congr_left fun s hs=>?_
  have hs':s<reps.length:=List.mem_range.1 hs
  unfold qF
  have e1:reps.getD s 0=reps[s]:=by rw [List.getD_eq_getElem?_getD,List.getElem?_eq_getElem hs'];rfl
  have e2:(reps.map (viaT A B)).getD s 0=viaT A B reps[s]:=by rw [List.getD_eq_getElem?_getD,List.getElem?_map,List.getElem?_eq_getElem hs'];rfl
  rw [e1,e2]
  obtain⟨t,h1,h2,h3⟩:=hv _ (List.getElem_mem hs')
  rw [← h3]
  have:=hL t h1
  rwa [h2] at this
 ·unfold aj_ az_
  refine List.map_congr_left fun i hi=>?_
  have hi':i<A.r.length:=by rw [hr];exact List.mem_range.1 hi
  rw [← hr]
  obtain⟨r1,r2,r3⟩:=de_ oA hi'
  refine List.map_congr_left fun p _=>?_
  have hdr:=c5_ (h.pos hA) (A.r.getD i 0).toNat p
  have hdl:=b8_ reps.length (A.r.getD i 0).toNat p
  generalize digs reps.length (A.r.getD i 0).toNat p=ds at*
  unfold qT
  have hpairs:=pf_ (A:=A) (B:=B) (f:=phi reps) (g:=phi (reps.map (viaT A B))) (l:=ds) fun d hd=>by
   obtain⟨t,h1,h2,h3⟩:=hv _ (od_ (hdr d hd))
   exact⟨t,h1,h2,by rw [h3,n9_ (hdr d hd)]⟩
  obtain⟨t,t1,t2,t3⟩:=xf_ oA oB hr (by rw [List.length_map,hdl];exact r1) hpairs
  rw [← t2,← t3]
  have hfA:=b3_ oA t t1
  have hfB':=b3_ oB t (by rw [← hr];exact t1)
  congr 1
  unfold idxC
  rw [List.map_map]
  refine ia_ fun r hr'=>?_
  show _↔clsI B (viaT A B r)=_
  rw [di_ oA (h.inA oA r hr') (av_ oA hfA),di_ oB (av_ oB (hfB r hr')) (av_ oB hfB')]
  exact hvt r hr' t t1
theorem ue_ {A B:Au} (hA:chk A=0) (hB:chk B=0) (hr:A.r=B.r) (hL:hr_ A B):aq_ A=aq_ B:=by
 obtain⟨h1,h2⟩:=vw_ hA hB hr hL (b5_ (a4_ hA))
 rw [nu_ hB h1,← h2]
 rfl
theorem qs_ {A:Au} (hk:chk A=0):hr_ A (aq_ A):=fun t ht=>(o5_ hk t ht).2.symm
theorem hr_.trans {A B C:Au} (hr:A.r=B.r) (h:hr_ A B) (k:hr_ B C):hr_ A C:=fun t ht=>(h t ht).trans (k t (by rw [← hr];exact ht))
theorem oj_ {A:Au} (hk:chk A=0):aq_ (aq_ A)=aq_ A:=
 (ue_ hk (gs_ hk) rfl (qs_ hk)).symm
end Go.Mn
namespace Go.Mn
open Go Go.Rt
def lexL:List Nat→List Nat→Prop
 |a::ra,b::bs=>a<b∨(a=b∧lexL ra bs)
 |_,_=>False
def slt (u v:List Nat):Prop:=u.length<v.length∨(u.length=v.length∧lexL u v)
def sle (u v:List Nat):Prop:=u=v∨slt u v
theorem p0_:∀ u:List Nat,¬ lexL u u
 | [],h=>h
 |a::ra,h=>by
  rcases h with h| ⟨_,h⟩
  ·omega
  ·exact p0_ ra h
theorem kw_:∀ {u v w:List Nat},lexL u v→lexL v w→lexL u w
 |a::ra,b::bs,c::cs,h,k=>by
  rcases h with h| ⟨rfl,h⟩
  ·rcases k with k| ⟨rfl,k⟩
   ·exact .inl (by omega)
   ·exact .inl h
  ·rcases k with k| ⟨rfl,k⟩
   ·exact .inl k
   ·exact .inr ⟨rfl,kw_ h k⟩
theorem k4_:∀ {u v:List Nat},u.length=v.length→lexL u v∨u=v∨lexL v u
 | [],[],_=> .inr (.inl rfl)
 |a::ra,b::bs,h=>by
  rcases Nat.lt_trichotomy a b with hl|rfl|hl
  ·exact .inl (.inl hl)
  ·rcases k4_ (u:=ra) (v:=bs) (by simpa using h) with h|h|h
   ·exact .inl (.inr ⟨rfl,h⟩)
   ·exact .inr (.inl (by rw [h]))
   ·exact .inr (.inr (.inr ⟨rfl,h⟩))
  ·exact .inr (.inr (.inl hl))
 | [],_::_,h=>by cases h
 |_::_,[],h=>by cases h
theorem ip_:∀ {u v:List Nat} {x y:Nat},u.length=v.length→(lexL (u++ [x]) (v++ [y])↔lexL u v∨(u=v∧x<y))
 | [],[],x,y,_=>⟨fun h=>h.elim (fun h=> .inr ⟨rfl,h⟩) (fun h=>h.2.elim),fun h=>h.elim (fun h=>h.elim) (fun h=> .inl h.2)⟩
 |a::    ra,b::bs,x,y,hlen=>by
  have ih:=ip_ (u:=ra) (v:=bs) (x:=x) (y:=y) (by simpa using hlen)
  clear hlen
  constructor
  ·rintro (h| ⟨rfl,h⟩)
   ·exact .inl (.inl h)
   ·    rcases ih.1 h with h2| ⟨e,h2⟩
        ·exact .inl (.inr ⟨rfl,h2⟩)
        ·exact .inr ⟨by rw [e],h2⟩
  ·rintro ((h| ⟨rfl,h⟩)| ⟨h,h2⟩)
   ·exact .inl h
   ·exact .inr ⟨rfl,ih.2 (.inl h)⟩
   ·    obtain⟨rfl,rfl⟩:=List.cons.inj h
        exact .inr ⟨rfl,ih.2 (.inr ⟨rfl,h2⟩)⟩
 | [],_::_,_,_,h=>by cases h
 |_::_,[],_,_,h=>by cases h
theorem ow_ (u:List Nat):¬ slt u u:=fun h=>h.elim (fun h=>by omega) (fun h=>p0_ u h.2)
theorem gt_ {u v w:List Nat} (h:slt u v) (k:slt v w):slt u w:=by
 rcases h with h| ⟨h,h2⟩
 ·rcases k with k| ⟨k,_⟩
  ·exact .inl (by omega)
  ·exact .inl (by omega)
 ·rcases k with k| ⟨k,k2⟩
  ·exact .inl (by omega)
  ·exact .inr ⟨by omega,kw_ h2 k2⟩
theorem s1_ {u v w:List Nat} (h:sle u v) (k:sle v w):sle u w:=by
 rcases h with rfl|h
 ·exact k
 ·rcases k with rfl|k
  ·exact .inr h
  ·exact .inr (gt_ h k)
theorem r3_ (u v:List Nat):slt u v∨u=v∨slt v u:=by
 rcases Nat.lt_trichotomy u.length v.length with h|h|h
 ·exact .inl (.inl h)
 ·rcases k4_ h with h2|h2|h2
  ·exact .inl (.inr ⟨h,h2⟩)
  ·exact .inr (.inl h2)
  ·exact .inr (.inr (.inr ⟨h.symm,h2⟩))
 ·exact .inr (.inr (.inl h))
theorem lu_ {u v:List Nat} {x y:Nat} (h:slt u v):slt (u++ [x]) (v++ [y]):=by
 rcases h with h| ⟨h,h2⟩
 ·exact .inl (by simp only [List.length_append,List.length_singleton];omega)
 ·exact .inr ⟨by simp only [List.length_append,List.length_singleton];omega,(ip_ h).2 (.inl h2)⟩
theorem pd_ {u:List Nat} {x y:Nat} (h:x<y):slt (u++ [x]) (u++ [y]):= .inr ⟨by simp,(ip_ rfl).2 (.inr ⟨rfl,h⟩)⟩
theorem uf_ {u v:List Nat} {x:Nat} (h:sle u v):sle (u++ [x]) (v++ [x]):=by
 rcases h with rfl|h
 ·exact .inl rfl
 ·exact .inr (lu_ h)
def spAt (A:Au) (i:Nat):Sp:=(ab_ A).getD i ⟨0,0,0⟩
def bd_ (A:Au) (l:List Nat):List Sp:=l.map (spAt A)
theorem gw_ {A:Au} {i:Nat} (h:i<(ab_ A).length):spAt A i∈ab_ A:=by
 unfold spAt
 rw [List.getD_eq_getElem?_getD,List.getElem?_eq_getElem h]
 exact List.getElem_mem h
def jn_ (A:Au) (l:List Nat) (p q:Int):Prop:=(∀ i∈l,i<(ab_ A).length)∧finI A (cb_ A (bd_ A l) p)≠finI A (cb_ A (bd_ A l) q)
theorem hz_ {A:Au} {l:List Nat} {p q:Int} (h:jn_ A l p q):Dist A l.length p q:=
 ⟨bd_ A l,by unfold bd_;rw [List.length_map],fun s hs=>by
  obtain⟨i,hi,rfl⟩:=List.mem_map.1 hs
  exact gw_ (h.1 i hi),h.2⟩
theorem sj_ {A:Au}:∀ {l:List Sp},(∀ s∈l,s∈ab_ A)→ ∃ u:List Nat,(∀ i∈u,i<(ab_ A).length)∧bd_ A u=l
 | [],_=>⟨[],fun i hi=>(by cases hi),rfl⟩
 |s::l,h=>by
  obtain⟨i,hi⟩:=List.getElem?_of_mem (h s (by simp))
  obtain⟨u,h1,h2⟩:=sj_ fun x hx=>h x (List.mem_cons_of_mem _ hx)
  refine⟨i::u,fun j hj=>?_,?_⟩
  ·rcases List.mem_cons.1 hj with rfl|hj
   ·exact (List.getElem?_eq_some_iff.1 hi).1
   ·exact h1 j hj
  ·unfold bd_ at*
   rw [List.map_cons,h2]
   unfold spAt
   rw [List.getD_eq_getElem?_getD,hi];rfl
theorem xj_ {A:Au} {d:Nat} {p q:Int} (h:Dist A d p q):∃ u:List Nat,u.length=d∧jn_ A u p q:=by
 obtain⟨l,h1,h2,h3⟩:=h
 obtain⟨u,h4,h5⟩:=sj_ h2
 exact⟨u,by rw [← h1,← h5];unfold bd_;rw [List.length_map],h4,by rw [h5];exact h3⟩
theorem fm_ (A:Au) (l:List Sp) (s:Sp) (p:Int):cb_ A (l++ [s]) p=an_ A s (cb_ A l p):=by unfold cb_;rw [List.foldl_append];rfl
theorem mu_ (A:Au) (l r:List Sp) (p:Int):cb_ A (l++r) p=cb_ A r (cb_ A l p):=by unfold cb_;rw [List.foldl_append]
structure Way where
 p:Int
 q:Int
 l:List Nat
def Way.pr (w:Way):Int × Int:=(w.p,w.q)
def a5_ (A:Au) (w:Way) (i:Nat):Way:=⟨an_ A (spAt A i) w.p,an_ A (spAt A i) w.q,w.l++ [i]⟩
def f1_ (A:Au) (w:Way) (W:List Way) (i:Nat):List Way:=if (a5_ A w i).p=(a5_ A w i).q∨(a5_ A w i).pr∈W.map Way.pr then W else W++ [a5_ A w i]
structure BInv (A:Au) (p q:Int) (k i:Nat) (W:List Way):Prop where
 st:W[0]?=some ⟨p,q,[]⟩
 run:∀ w∈W,(∀ j∈w.l,j<(ab_ A).length)∧w.p=cb_ A (bd_ A w.l) p∧w.q=cb_ A (bd_ A w.l) q∧InA A w.p∧InA A w.q
 nd:(W.map Way.pr).Nodup
 par:∀ w∈W,w.l=[]∨ ∃ (j:Nat) (u:Way) (x:Nat),W[j]?=some u∧w.l=u.l++ [x]∧(j<k∨(j=k∧x<i))
 srt:W.Pairwise fun u v=>slt u.l v.l
 cl:∀ (j:Nat) (u:Way) (x:Nat),W[j]?=some u→x<(ab_ A).length→(j<k∨(j=k∧x<i))→(a5_ A u x).p=(a5_ A u x).q∨ ∃ v∈W,v.pr=(a5_ A u x).pr∧sle v.l (u.l++ [x])
 eq:∀ (j:Nat) (u:Way),W[j]?=some u→j<k→finI A u.p=finI A u.q
section
variable {A:Au} {p q:Int}
theorem BInv.init (hp:InA A p) (hq:InA A q):BInv A p q 0 0 [⟨p,q,[]⟩]:=by
 refine⟨rfl,fun w hw=>?_,by simp,fun w hw=>?_,by simp,fun j u x _ _ h=>by omega,fun j u _ h=>by omega⟩
 ·rw [List.mem_singleton] at hw;subst hw
  exact⟨fun j hj=>(by cases hj),rfl,rfl,hp,hq⟩
 ·rw [List.mem_singleton] at hw;subst hw;exact .inl rfl
theorem l5_ {W:List Way} {v:Way} {j:Nat} {u:Way} (h:W[j]?=some u):(W++ [v])[j]?=some u:=by
 rw [List.getElem?_append_left (List.getElem?_eq_some_iff.1 h).1];exact h
theorem tg_ {W:List Way} {v:Way} {j:Nat} {u:Way} (h:(W++ [v])[j]?=some u):W[j]?=some u∨(j=W.length∧u=v):=by
 rcases Nat.lt_or_ge j W.length with hl|hl
 ·rw [List.getElem?_append_left hl] at h;exact .inl h
 ·rw [List.getElem?_append_right hl] at h
  have:=(List.getElem?_eq_some_iff.1 h).1
  rw [List.length_singleton] at this
  have e:j=W.length:=by omega
  subst e
  rw [Nat.sub_self] at h
  exact .inr ⟨rfl,(Option.some.inj h).symm⟩
theorem BInv.add (hok:AuOk A) {k i:Nat} {W:List Way} {w:Way} (h:BInv A p q k i W) (hw:W[k]?=some w) (hi:i<(ab_ A).length):BInv A p q k (i+1) (f1_ A w W i)∧(f1_ A w W i)[k]?=some w:=by
  have hkl:=(List.getElem?_eq_some_iff.1 hw).1
  have hwm:=List.mem_of_getElem? hw
  obtain⟨w1,w2,w3,w4,w5⟩:=h.run w hwm
  have hsp:=a2_.1 (gw_ hi)
  unfold f1_
  by_cases hc:(a5_ A w i).p=(a5_ A w i).q∨(a5_ A w i).pr∈W.map Way.pr
  · rw [if_pos hc]
    refine⟨⟨h.st,h.run,h.nd,fun v hv=>?_,h.srt,fun j u x hj hx hlt=>?_,h.eq⟩,hw⟩
    · rcases h.par v hv with e| ⟨j,u,x,h1,h2,h3⟩
      ·exact .inl e
      ·exact .inr ⟨j,u,x,h1,h2,by omega⟩
    · by_cases hold:j<k∨(j=k∧x<i)
      ·exact h.cl j u x hj hx hold
      · obtain ⟨rfl,rfl⟩:j=k∧x=i:=by omega
        rw [hw] at hj
        obtain rfl:=Option.some.inj hj
        rcases hc with hc|hc
        ·exact .inl hc
        · obtain⟨v,hv,e⟩:=List.mem_map.1 hc
          refine .inr ⟨v,hv,e,?_⟩
          rcases h.par v hv with e2| ⟨j',u',x',h1,h2,h3⟩
          · refine .inr (.inl ?_)
            rw [e2,List.length_append];simp
          · rw [h2]
            rcases h3 with h3| ⟨rfl,h3⟩
            · refine .inr (lu_ ?_)
              have hsrt:=h.srt
              rw [List.pairwise_iff_getElem] at hsrt
              have:=hsrt j' j (by omega) hkl h3
              rw [(List.getElem?_eq_some_iff.1 h1).2,(List.getElem?_eq_some_iff.1 hw).2] at this
              exact this
            · rw [hw] at h1
              obtain rfl:=Option.some.inj h1
              exact .inr (pd_ h3)
  · rw [if_neg hc]
    have hc1:¬ (a5_ A w i).p=(a5_ A w i).q:=fun e=>hc (.inl e)
    have hc2:(a5_ A w i).pr ∉ W.map Way.pr:=fun e=>hc (.inr e)
    refine⟨⟨l5_ h.st,fun v hv=>?_,?_,fun v hv=>?_,?_,fun j u x hj hx hlt=>?_,fun j u hj hlt=>?_⟩,l5_ hw⟩
    · rcases List.mem_append.1 hv with hv|hv
      ·exact h.run v hv
      · rw [List.mem_singleton] at hv;subst hv
        refine⟨fun j hj=>?_,?_,?_,b4_ hok hsp w4,b4_ hok hsp w5⟩
        · rcases List.mem_append.1 hj with hj|hj
          ·exact w1 j hj
          ·rw [List.mem_singleton] at hj;omega
        · show an_ A (spAt A i) w.p=cb_ A (bd_ A (w.l++ [i])) p
          unfold bd_
          rw [List.map_append,w2]
          exact (fm_ A _ _ _).symm
        · show an_ A (spAt A i) w.q=cb_ A (bd_ A (w.l++ [i])) q
          unfold bd_
          rw [List.map_append,w3]
          exact (fm_ A _ _ _).symm
    · rw [List.map_append,List.nodup_append]
      refine⟨h.nd,by simp,fun a ha b hb e=>?_⟩
      rw [List.map_singleton,List.mem_singleton] at hb
      rw [e,hb] at ha
      exact hc2 ha
    · rcases List.mem_append.1 hv with hv|hv
      · rcases h.par v hv with e| ⟨j,u,x,h1,h2,h3⟩
        ·exact .inl e
        ·exact .inr ⟨j,u,x,l5_ h1,h2,by omega⟩
      · rw [List.mem_singleton] at hv;subst hv
        exact .inr ⟨k,w,i,l5_ hw,rfl,.inr ⟨rfl,by omega⟩⟩
    · rw [List.pairwise_append]
      refine⟨h.srt,by simp,fun u hu v hv=>?_⟩
      rw [List.mem_singleton] at hv;subst hv
      show slt u.l (w.l++ [i])
      rcases h.par u hu with e| ⟨j,u',x,h1,h2,h3⟩
      · refine .inl ?_
        rw [e,List.length_append];simp
      · rw [h2]
        rcases h3 with h3| ⟨rfl,h3⟩
        · refine lu_ ?_
          have hsrt:=h.srt
          rw [List.pairwise_iff_getElem] at hsrt
          have:=hsrt j k (by omega) hkl h3
          rw [(List.getElem?_eq_some_iff.1 h1).2,(List.getElem?_eq_some_iff.1 hw).2] at this
          exact this
        · rw [hw] at h1
          obtain rfl:=Option.some.inj h1
          exact pd_ h3
    · rcases tg_ hj with hj'| ⟨rfl,rfl⟩
      · clear hj
        by_cases hold:j<k∨(j=k∧x<i)
        · rcases h.cl j u x hj' hx hold with e| ⟨v,hv,e⟩
          ·exact .inl e
          ·exact .inr ⟨v,List.mem_append_left _ hv,e⟩
        · obtain⟨rfl,rfl⟩:j=k∧x=i:=by omega
          rw [hw] at hj'
          obtain rfl:=Option.some.inj hj'
          exact .inr ⟨_,List.mem_append_right _ (List.mem_singleton.2 rfl),rfl,.inl rfl⟩
      ·omega
    · rcases tg_ hj with hj| ⟨rfl,rfl⟩
      ·exact h.eq j u hj hlt
      ·omega
theorem BInv.next {k:Nat} {W:List Way} {w:Way} (h:BInv A p q k (ab_ A).length W) (hw:W[k]?=some w) (he:finI A w.p=finI A w.q):BInv A p q (k+1) 0 W:=by
 refine⟨h.st,h.run,h.nd,fun v hv=>?_,h.srt,fun j u x hj hx hlt=>?_,fun j u hj hlt=>?_⟩
 ·rcases h.par v hv with e| ⟨j,u,x,h1,h2,h3⟩
  ·exact .inl e
  ·exact .inr ⟨j,u,x,h1,h2,by omega⟩
 ·exact h.cl j u x hj hx (by omega)
 ·by_cases hk:j<k
  ·exact h.eq j u hj hk
  ·obtain rfl:j=k:=by omega
   rw [hw] at hj
   obtain rfl:=Option.some.inj hj
   exact he
theorem BInv.cover (hok:AuOk A) {k:Nat} {W:List Way} (h:BInv A p q k 0 W) (hp:InA A p) (hq:InA A q):∀ (n:Nat) (u r:List Nat),u.length=n→(∀ i∈u++r,i<(ab_ A).length)→finI A (cb_ A (bd_ A (u++r)) p)≠finI A (cb_ A (bd_ A (u++r)) q)→(∀ v∈W,v.l.length<n→ ∃ j,j<k∧W[j]?=some v)→ ∃ v∈W,v.pr=(cb_ A (bd_ A u) p,cb_ A (bd_ A u) q)∧sle v.l u:=by
 intro n
 induction n with
 |zero=>
  intro u r hu _ _ _
  obtain rfl:=List.eq_nil_of_length_eq_zero hu
  exact⟨_,List.mem_of_getElem? h.st,rfl,.inl rfl⟩
 |succ n ih=>
  intro u r hu hr hd hpop
  obtain⟨u',x,rfl⟩:∃ u' x,u=u'++ [x]:=by
   rcases List.eq_nil_or_concat u with e| ⟨u',x,e⟩
   ·rw [e] at hu;cases hu
   ·exact⟨u',x,by rw [e,List.concat_eq_append]⟩
  have hu':u'.length=n:=by rw [List.length_append,List.length_singleton] at hu;omega
  have hxl:x<(ab_ A).length:=hr x (by simp)
  obtain⟨v,hv,e,hle⟩:=ih u' ([x]++r) hu' (fun i hi=>hr i (by simpa using hi)) (by rw [← List.append_assoc];exact hd) (fun v hv hl=>hpop v hv (by omega))
  have hvl:v.l.length<n+1:=by
   rcases hle with hle|hle|hle
   ·rw [hle];omega
   ·omega
   ·omega
  obtain⟨j,hj,hjv⟩:=hpop v hv hvl
  have hstep:(cb_ A (bd_ A (u'++ [x])) p,cb_ A (bd_ A (u'++ [x])) q)=(a5_ A v x).pr:=by
   have e1:v.p=cb_ A (bd_ A u') p:=congrArg Prod.fst e
   have e2:v.q=cb_ A (bd_ A u') q:=congrArg Prod.snd e
   unfold bd_
   rw [List.map_append,List.map_singleton,fm_,fm_]
   unfold a5_ Way.pr
   rw [e1,e2];rfl
  rcases h.cl j v x hjv hxl (.inl hj) with hdg| ⟨v',hv',e',hle'⟩
  ·exfalso
   refine hd ?_
   have e1:cb_ A (bd_ A (u'++ [x])) p=(a5_ A v x).p:=congrArg Prod.fst hstep
   have e2:cb_ A (bd_ A (u'++ [x])) q=(a5_ A v x).q:=congrArg Prod.snd hstep
   have hsplit:bd_ A (u'++ [x]++r)=bd_ A (u'++ [x])++bd_ A r:=by unfold bd_;rw [List.map_append]
   rw [hsplit,mu_,mu_,e1,e2,hdg]
  ·exact⟨v',hv',by rw [hstep];exact e',s1_ hle' (uf_ hle)⟩
theorem BInv.found (hok:AuOk A) {k:Nat} {W:List Way} {w:Way} (h:BInv A p q k 0 W) (hp:InA A p) (hq:InA A q) (hw:W[k]?=some w) (hd:finI A w.p≠finI A w.q):jn_ A w.l p q∧ ∀ g,jn_ A g p q→sle w.l g:=by
 obtain⟨w1,w2,w3,w4,w5⟩:=h.run w (List.mem_of_getElem? hw)
 refine⟨⟨w1,by rw [← w2,← w3];exact hd⟩,fun g hg=>?_⟩
 rcases r3_ w.l g with hl|hl|hl
 ·exact .inr hl
 ·exact .inl hl
 ·exfalso
  have hkl:=(List.getElem?_eq_some_iff.1 hw).1
  have   hbefore:∀ v∈W,slt v.l w.l→ ∃ j,j<k∧W[j]?=some v:=fun v hv hlt=>by
   obtain⟨j,hj⟩:=List.getElem?_of_mem hv
   refine⟨j,?_,hj⟩
   refine Classical.byContradiction fun hn=>?_
   have hjl:=(List.getElem?_eq_some_iff.1 hj).1
   rcases Nat.lt_or_ge k j with hkj|hkj
   ·    have hsrt:=h.srt
        rw [List.pairwise_iff_getElem] at hsrt
        have:=hsrt k j hkl hjl hkj
        rw [(List.getElem?_eq_some_iff.1 hj).2,(List.getElem?_eq_some_iff.1 hw).2] at this
        exact ow_ _ (gt_ hlt this)
   ·    obtain rfl:j=k:=by omega
        rw [hw] at hj
        obtain rfl:=Option.some.inj hj
        exact ow_ _ hlt
  have hgl:g.length≤w.l.length:=by
   rcases hl with hl| ⟨hl,_⟩
   ·omega
   ·omega
  obtain⟨v,hv,e,hle⟩:=h.cover hok hp hq g.length g [] rfl (by rw [List.append_nil];exact hg.1) (by rw [List.append_nil];exact hg.2) (fun v hv hlt=>hbefore v hv (.inl (by omega)))
  have hvw:slt v.l w.l:=by
   rcases hle with hle|hle
   ·rw [hle];exact hl
   ·exact gt_ hle hl
  obtain⟨j,hj,hjv⟩:=hbefore v hv hvw
  have:=h.eq j v hjv hj
  have e1:v.p=cb_ A (bd_ A g) p:=congrArg Prod.fst e
  have e2:v.q=cb_ A (bd_ A g) q:=congrArg Prod.snd e
  rw [e1,e2] at this
  exact hg.2 this
theorem BInv.none (hok:AuOk A) {W:List Way} (h:BInv A p q W.length 0 W) (hp:InA A p) (hq:InA A q):Eqv A p q:=fun d hd=>by
 obtain⟨g,hg1,hg⟩:=xj_ hd
 have hpop:∀ v∈W,∃ j,j<W.length∧W[j]?=some v:=fun v hv=>by
  obtain⟨j,hj⟩:=List.getElem?_of_mem hv
  exact⟨j,(List.getElem?_eq_some_iff.1 hj).1,hj⟩
 obtain⟨v,hv,e,hle⟩:=h.cover hok hp hq g.length g [] rfl (by rw [List.append_nil];exact hg.1) (by rw [List.append_nil];exact hg.2) (fun v hv _=>hpop v hv)
 obtain⟨j,hj,hjv⟩:=hpop v hv
 have:=h.eq j v hjv hj
 have e1:v.p=cb_ A (bd_ A g) p:=congrArg Prod.fst e
 have e2:v.q=cb_ A (bd_ A g) q:=congrArg Prod.snd e
 rw [e1,e2] at this
 exact hg.2 this
theorem t5_ {n:Nat} {l:List (Int × Int)} (hnd:l.Nodup) (h:∀ x∈l,(0≤x.1∧x.1<(n:Int))∧(0≤x.2∧x.2<(n:Int))):l.length≤n*n:=by
 have h1:=b9_ (n*n) (l.map fun x=>x.1*(n:Int)+x.2) ?_ fun s hs=>?_
 ·rwa [List.length_map] at h1
 ·rw [List.nodup_iff_pairwise_ne,List.pairwise_map]
  rw [List.nodup_iff_pairwise_ne] at hnd
  refine List.Pairwise.imp_of_mem ?_ hnd
  intro a b ha hb hne e
  refine hne ?_
  obtain⟨a1,a2⟩:=h a ha
  obtain⟨b1,b2⟩:=h b hb
  have d1:=ji_ (a:=a.1) a2
  have d2:=ji_ (a:=b.1) b2
  rw [e] at d1
  exact Prod.ext (d1.1.symm.trans d2.1) (d1.2.symm.trans d2.2)
 ·obtain⟨x,hx,rfl⟩:=List.mem_map.1 hs
  obtain⟨⟨h1,h2⟩,h3,h4⟩:=h x hx
  obtain⟨a,ha⟩:=Int.eq_ofNat_of_zero_le h1
  obtain⟨b,hb⟩:=Int.eq_ofNat_of_zero_le h3
  rw [ha,hb]
  have ha':a<n:=by omega
  have:(a+1)*n≤n*n:=Nat.mul_le_mul_right _ ha'
  rw [Nat.add_mul,Nat.one_mul] at this
  rw [← Int.natCast_mul]
  omega
theorem BInv.few {k i:Nat} {W:List Way} (h:BInv A p q k i W):W.length≤A.f.length*A.f.length:=by
 have:=t5_ (n:=A.f.length) h.nd fun x hx=>by
  obtain⟨w,hw,rfl⟩:=List.mem_map.1 hx
  exact⟨(h.run w hw).2.2.2.1,(h.run w hw).2.2.2.2⟩
 rwa [List.length_map] at this
end
end Go.Mn
namespace Go.Mn
open Go Go.Rt
def lw_ (A:Au) (d:Nat) (p q:Int):Nat:=((List.range (ab_ A).length).find? fun (i:Nat)=>decide (farA A (an_ A (spAt A i) p) (an_ A (spAt A i) q)=(d:Int))).getD 0
def i8_ (A:Au):Nat→Int→Int→List Nat
 |0,_,_=> []
 |d+1,p,q=>lw_ A d p q::i8_ A d (an_ A (spAt A (lw_ A d p q)) p) (an_ A (spAt A (lw_ A d p q)) q)
theorem nv_ {u v:List Nat} (h:sle u v) (k:sle v u):u=v:=by
 rcases h with h|h
 ·exact h
 ·rcases k with k|k
  ·exact k.symm
  ·exact absurd (gt_ h k) (ow_ u)
theorem ty_ {A:Au} {d:Nat} {p q:Int} (hd:d+1≤A.f.length) (h:MinD A (d+1) p q):lw_ A d p q<(ab_ A).length∧MinD A d (an_ A (spAt A (lw_ A d p q)) p) (an_ A (spAt A (lw_ A d p q)) q)∧ ∀ j,j<lw_ A d p q→ ¬ MinD A d (an_ A (spAt A j) p) (an_ A (spAt A j) q):=by
 have hE:Eqk A d p q:=fun e he=>h.2 e (by omega)
 obtain⟨s,hs,hm⟩:=(my_ hE).1 h
 obtain⟨i,hi⟩:=List.getElem?_of_mem hs
 have hil:=(List.getElem?_eq_some_iff.1 hi).1
 have hsp:spAt A i=s:=by unfold spAt;rw [List.getD_eq_getElem?_getD,hi];rfl
 obtain⟨m,h1,h2,h3,h4⟩:=ha_ (f:=fun (i:Nat)=>decide (farA A (an_ A (spAt A i) p) (an_ A (spAt A i) q)=(d:Int))) hil (decide_eq_true (by rw [hsp];exact ja_.2 ⟨by omega,hm⟩))
 unfold lw_
 rw [h1,Option.getD_some]
 refine⟨by omega,(ja_.1 (of_decide_eq_true h3)).2,fun j hj hj2=>?_⟩
 have h5:=h4 j hj
 have h6:farA A (an_ A (spAt A j) p) (an_ A (spAt A j) q)=(d:Int):=ja_.2 ⟨by omega,hj2⟩
 rw [decide_eq_true h6] at h5
 cases h5
theorem h6_ {A :Au}:∀ (d:Nat) (p q:Int),d≤A.f.length→MinD A d p q→jn_ A (i8_ A d p q) p q∧(i8_ A d p q).length=d∧ ∀ g,jn_ A g p q→sle (i8_ A d p q) g
  | 0,p,q,_,h=>by
    rw [i8_]
    refine⟨⟨fun i hi=>(by cases hi),b6_.1 h.1⟩,rfl,fun g hg=>?_⟩
    cases g with
    |nil=>exact .inl rfl
    |cons x g=>exact .inr (.inl (by simp))
  | d + 1, p, q,hd,h=>by
    obtain⟨h1,h2,h3⟩:=ty_ hd h
    obtain⟨⟨i1,i2⟩,i3,i4⟩:=h6_ d _ _ (by omega) h2
    rw [i8_]
    refine⟨⟨fun i hi=>?_,i2⟩,by rw [List.length_cons,i3],fun g hg=>?_⟩
    · rcases List.mem_cons.1 hi with rfl|hi
      ·exact h1
      ·exact i1 i hi
    · have hgl :¬ g.length<d+1:=fun hl=>h.2 _ hl (hz_ hg)
      by_cases hl:g.length=d+1
      · cases g with
        |nil=>cases hl
        | cons j g=>
          have hg':jn_ A g (an_ A (spAt A j) p) (an_ A (spAt A j) q):=⟨fun i hi=>hg.1 i (List.mem_cons_of_mem _ hi),hg.2⟩
          have hj:=hg.1 j (by simp)
          have hgd:g.length=d:=by simpa using hl
          have hmin:MinD A d (an_ A (spAt A j) p) (an_ A (spAt A j) q):=by
            refine⟨by rw [← hgd];exact hz_ hg',fun e he hde=>h.2 (e+1) (by omega) (b1_.2 ⟨_,gw_ hj,hde⟩)⟩
          rcases Nat.lt_trichotomy (lw_ A d p q) j with hlt|heq|hgt
          ·exact .inr (.inr ⟨by rw [List.length_cons,List.length_cons,i3,hgd],.inl hlt⟩)
          · rw [heq] at i4 i3 ⊢
            rcases i4 g hg' with e|e
            ·exact .inl (by rw [e])
            · rcases e with e| ⟨e1,e2⟩
              ·omega
              ·exact .inr (.inr ⟨by rw [List.length_cons,List.length_cons,e1],.inr ⟨rfl,e2⟩⟩)
          ·exact absurd hmin (h3 j hgt)
      ·exact .inr (.inl (by rw [List.length_cons,i3];omega))
end Go.Mn
namespace Go.Mn
open Go Go.Rt
theorem th_ {s:Int} {l:List Tr} {t:Tr} (h:t∈l):co_ t<co_ (.node s l):=by
 obtain⟨i,hi⟩:=List.getElem?_of_mem h
 have:=mk_ hi
 rw [fh_];omega
theorem ig_ {s:Int} {l:List Tr} (h:co_ (.node s l)≤4096):c1_ 1 l=(co_ (.node s l):Int):=by
 have:=pq_ (.node s l) (by omega)
 rw [ky_] at this
 exact this
theorem qp_ {s s':Int} {l l':List Tr} (h:co_ (.node s l)≤4096) (h':co_ (.node s' l')≤4096):cmpT (.node s l) (.node s' l')<0↔co_ (.node s l)<co_ (.node s' l')∨(co_ (.node s l)=co_ (.node s' l')∧(s<s'∨(s=s'∧(l.length<l'.length∨(l.length=l'.length∧cmpL l l'<0))))):=by
 rw [tq_,ig_ h,ig_ h']
 constructor
 ·rintro (h1| ⟨h1,h2⟩)
  ·exact .inl (by omega)
  ·exact .inr ⟨by omega,h2⟩
 ·rintro (h1| ⟨h1,h2⟩)
  ·exact .inl (by omega)
  ·exact .inr ⟨by omega,h2⟩
def leT (t u:Tr):Prop:=cmpT t u≤0
theorem aaa {t u:Tr} (h:leT t u):cmpT t u<0∨t=u:=by
 unfold leT at h
 by_cases e:cmpT t u=0
 ·exact .inr (oi_ _ _ e)
 ·exact .inl (by omega)
theorem nj_ (t u:Tr):leT t u∨cmpT u t<0:=by
 unfold leT
 rw [na_ t u]
 omega
theorem uc_ {t u:Tr} (ht:co_ t≤4096) (hu:co_ u≤4096) (h:leT t u):co_ t≤co_ u:=by
 rcases aaa h with h|rfl
 ·obtain⟨s,l⟩:=t
  obtain⟨s',l'⟩:=u
  rcases (qp_ ht hu).1 h with h| ⟨h,_⟩ <;> omega
 ·exact Nat.le_refl _
def tupT (T:List Tr):Nat→List (List Tr)
 |0=> [[]]
 |k+1=>T.flatMap fun t=>(tupT T k).map fun l=>t::l
def allT (r:List Int):Nat→List Tr
 |0=> []
 |k+1=>(List.range r.length).flatMap fun s=>(tupT (allT r k) (r.getD s 0).toNat).map fun l=> .node (s:Int) l
theorem p8_ {T:List Tr}:∀ {l:List Tr},(∀ t∈l,t∈T)→l∈tupT T l.length
 | [],_=>by simp [tupT]
 |t::ts,h=>List.mem_flatMap.2 ⟨t,h t (by simp),List.mem_map.2 ⟨ts,p8_ fun x hx=>h x (List.mem_cons_of_mem _ hx),rfl⟩⟩
theorem pm_ {r:List Int}:∀ (k:Nat) (t:Tr),co_ t≤k→bc_ r t=0→t∈allT r k
 |0,t,h,_=>by have:=s3_ t;omega
 |k+1,.node s l,h,hn=>by
  obtain⟨h1,h2,h3,h4⟩:=b7_ hn
  obtain⟨m,rfl⟩:=Int.eq_ofNat_of_zero_le h1
  refine List.mem_flatMap.2 ⟨m,List.mem_range.2 (by omega),List.mem_map.2 ⟨l,?_,rfl⟩⟩
  rw [Int.toNat_natCast] at h3
  rw [← h3,Int.toNat_natCast]
  exact p8_ fun t ht=>pm_ k t (by have:=th_ (s:=(m:Int)) ht;omega) (j9_ h4 t ht)
theorem n0_ {α:Type} {p q:α→Bool} {x:α}:∀ {l:List α},(∀ y,p y=true→q y=true)→x∈l→p x=false→q x=true→l.countP p<l.countP q
 |y::ys,h,hx,h1,h2=>by
  have hle:ys.countP p≤ys.countP q:=List.countP_mono_left fun z _=>h z
  rw [List.countP_cons,List.countP_cons]
  rcases List.mem_cons.1 hx with rfl|hx
  ·rw [h1,h2]
   show _+0<_+1
   omega
  ·have ih:=n0_ h hx h1 h2
   by_cases e:p y=true
   ·rw [if_pos e,if_pos (h y e)];omega
   ·rw [if_neg e];omega
def rkT (r:List Int) (t:Tr):Nat:=(allT r 4096).countP fun u=>decide (cmpT u t<0)
theorem wr_ {r:List Int} {t u:Tr} (ht:co_ t≤4096) (hn:bc_ r t=0) (h:cmpT t u<0):rkT r t<rkT r u:=by
 refine n0_ (x:=t) (fun y hy=>?_) (pm_ _ t ht hn) ?_ ?_
 ·exact decide_eq_true (kk_ _ _ _ (of_decide_eq_true hy) h)
 ·exact decide_eq_false (by rw [j2_];omega)
 ·exact decide_eq_true h
structure Reach (A:Au) (q:Int) (t:Tr):Prop where
 n:bc_ A.r t=0
 s:ay_ A t=q
 z:co_ t≤4096
def Best (A:Au) (q:Int) (t:Tr):Prop:=Reach A q t∧ ∀ u,Reach A q u→leT t u
theorem yk_ {A:Au} {q:Int} {t:Tr} (h:Reach A q t):∃ u,Best A q u:=by
 have key:∀ n t,rkT A.r t≤n→Reach A q t→ ∃ u,Best A q u:=by
  intro n
  induction n with
  |zero=>
   intro t hn ht
   refine⟨t,ht,fun u hu=>?_⟩
   rcases nj_ t u with h|h
   ·exact h
   ·have:=wr_ hu.z hu.n h;omega
  |succ  n ih=>
   intro t hn ht
   by_cases hb:∀ u,Reach A q u→leT t u
   ·exact⟨t,ht,hb⟩
   ·    obtain⟨u,hu⟩:=Classical.not_forall.1 hb
        obtain⟨hu,hl⟩:=Classical.not_imp.1 hu
        have:cmpT u t<0:=(nj_ t u).resolve_left hl
        exact ih u (by have:=wr_ hu.z hu.n this;omega) hu
 exact key _ t (Nat.le_refl _) h
end Go.Mn
namespace Go.Mn
open Go Go.Rt
def toR (A:Au) (reps:List Int) (p:Nat):Int:=if (p:Int)∈ac_ A then hasI (ac_ (quoA A reps)) (idxC A reps (p:Int):Nat) else -1
theorem lz_ {A:Au} {reps:List Int} (hk:chk A=0) (h:RepsOk A reps) {d:Nat} (hd:d<reps.length):(d:Int)∈ac_ (quoA A reps):=mz_ hk h ⟨by omega,by omega⟩
theorem ym_ {A:Au} {reps reps':List Int} (hk:chk A=0) (h:RepsOk A reps) (h':RepsOk A reps') (p:Nat):toR A reps p=toR A reps' p:=by
 unfold toR
 split
 ·rename_i hp
  have hok:=a4_ hk
  obtain⟨hsh,he⟩:=pr_ hk h h'
  have hlt:=ex_ h hp
  have hlt':=ex_ h' hp
  have hq:=lz_ hk h hlt
  have hq':=lz_ hk h' hlt'
  have hm:=mw_ (j3_ hk h) hsh
  rw [← he] at hm
  have hrng:∀ y∈ac_ (quoA A reps'),0≤y∧y<((reps'.map fun r=>((idxC A reps r:Nat):Int)).length:Int):=fun y hy=>by
   have:=av_ (f3_ hk h') hy
   unfold InA at this
   rw [e1_] at this
   rw [List.length_map];exact this
  have hphi:phi (reps'.map fun r=>((idxC A reps r:Nat):Int)) ((idxC A reps' (p:Int):Nat):Int)=((idxC A reps (p:Int):Nat):Int):=by
   rw [n9_ ⟨by omega,by omega⟩]
   show ((idxC A reps (phi reps' _):Nat):Int)=_
   rw [ee_ hok (av_ hok (jw_ h' ⟨by omega,by omega⟩)) (av_ hok hp) (fl_ hok h' hp)]
  rw [bz_ hq,bz_ hq',← hm,← hphi,h7_ hsh.nd (hrng _ hq') hrng hq']
 ·rfl
theorem i7_ {A:Au} {reps:List Int} (hk:chk A=0) (h:RepsOk A reps) (p:Nat):a3_ A p=toR A reps p:=ym_ hk (b5_ (a4_ hk)) h p
def bt_ (A:Au):List Int→List Int→List Int
 |acc,[]=>acc
 |acc,x::xs=>bt_ A (if clsI A x∈acc.map (clsI A) then acc else acc++ [x]) xs
theorem dw_ (A:Au):∀ (xs acc:List Int),(acc.map (clsI A)).Nodup→((bt_ A acc xs).map (clsI A)).Nodup∧(∀ r∈bt_ A acc xs,r∈acc∨r∈xs)∧(∀ x,x∈acc∨x∈xs→clsI A x∈(bt_ A acc xs).map (clsI A))
  | [],acc,h=>⟨h,fun r hr=> .inl hr,fun x hx=>List.mem_map_of_mem (hx.resolve_right (fun h=>by cases h))⟩
  | x :: xs,acc,h=>by
    rw [bt_]
    by_cases hc:clsI A x∈acc.map (clsI A)
    · rw [if_pos hc]
      obtain⟨h1,h2,h3⟩:=dw_ A xs acc h
      refine⟨h1,fun r hr=>(h2 r hr).imp id (List.mem_cons_of_mem _),fun y hy=>?_⟩
      rcases hy with hy|hy
      ·exact h3 y (.inl hy)
      · rcases List.mem_cons.1 hy with rfl|hy
        · obtain⟨z,hz,e⟩:=List.mem_map.1 hc
          rw [← e];exact h3 z (.inl hz)
        ·exact h3 y (.inr hy)
    · rw [if_neg hc]
      obtain⟨h1,h2,h3⟩:=dw_ A xs (acc++ [x]) (by
        rw [List.map_append,List.nodup_append]
        refine⟨h,by simp,fun a ha b hb e=>?_⟩
        rw [List.map_singleton,List.mem_singleton] at hb
        rw [e,hb] at ha
        exact hc ha)
      refine⟨h1,fun r hr=>?_,fun y hy=>?_⟩
      · rcases h2 r hr with h|h
        · rcases List.mem_append.1 h with h|h
          ·exact .inl h
          ·rw [List.mem_singleton] at h;subst h;exact .inr (by simp)
        ·exact .inr (List.mem_cons_of_mem _ h)
      · refine h3 y ?_
        rcases hy with hy|hy
        ·exact .inl (List.mem_append_left _ hy)
        · rcases List.mem_cons.1 hy with rfl|hy
          ·exact .inl (by simp)
          ·exact .inr hy
theorem ce_ (A:Au):RepsOk A (bt_ A [] (ac_ A)):=by
 obtain⟨h1,h2,h3⟩:=dw_ A (ac_ A) [] (by simp)
 exact⟨fun r hr=>(h2 r hr).resolve_left (fun h=>by cases h),h1,fun x hx=>h3 x (.inr hx)⟩
theorem hg_ (A:Au):∀ (xs acc:List Int),acc <+: bt_ A acc xs
 | [],acc=>List.prefix_refl _
 |x::xs,acc=>by
  rw [bt_]
  split
  ·exact hg_ A xs acc
  ·exact (List.prefix_append _ _).trans (hg_ A xs _)
def cq_ (n:Nat) (order:List Int):List Int:=(List.range n).map fun (s:Nat)=>hasI order (s:Int)
theorem ku_ {n:Nat} {order:List Int} (h:PermOk n order):PermOk n (cq_ n order)∧dg_ (cq_ n order)=order:=by
 have hall:=ei_ n order h
 have hlen:(cq_ n order).length=n:=by simp [cq_]
 have hat:∀ s:Nat,s<n→(cq_ n order)[s]?=some ((order.idxOf (s:Int):Nat):Int):=fun s hs=>by
  unfold cq_
  rw [List.getElem?_map,List.getElem?_range hs,Option.map_some,bz_ (hall s hs)]
 have hin:∀ i:Nat,i<n→(i:Int)∈cq_ n order:=fun i hi=>by
  have hio:i<order.length:=by rw [h.len];exact hi
  have hr:=h.rng order[i] (List.getElem_mem hio)
  refine List.mem_of_getElem? (i:=(order[i]).toNat) ?_
  rw [hat _ (by omega),Int.toNat_of_nonneg hr.1,gh_ order i _ h.nd (List.getElem?_eq_getElem hio)]
 have hp:PermOk n (cq_ n order):=iu_ n _ hlen hin
 refine⟨hp,?_⟩
 apply List.ext_getElem?
 intro i
 by_cases hi:i<n
 ·have hio:i<order.length:=by rw [h.len];exact hi
  have hr:=h.rng order[i] (List.getElem_mem hio)
  have e1:(cq_ n order)[(order[i]).toNat]?=some (i:Int):=by
   rw [hat _ (by omega),Int.toNat_of_nonneg hr.1,gh_ order i _ h.nd (List.getElem?_eq_getElem hio)]
  have e2:=gh_ _ _ _ hp.nd e1
  unfold dg_
  rw [List.getElem?_map,List.getElem?_range (by rw [hlen];exact hi),Option.map_some,e2,Int.toNat_of_nonneg hr.1,List.getElem?_eq_getElem hio]
 ·rw [List.getElem?_eq_none (by rw [i2_,hlen];omega),List.getElem?_eq_none (by rw [h.len];omega)]
theorem hc_ {A:Au} {reps:List Int} (hk:chk A=0) (h:RepsOk A reps):PermOk (quoA A reps).f.length (ac_ (quoA A reps)):=by
 have hqo:=f3_ hk h
 have hnd:=gn_ hqo
 have hrng:∀ x∈ac_ (quoA A reps),0≤x∧x<((quoA A reps).f.length:Int):=fun x hx=>av_ hqo hx
 have h1:=b9_ _ _ hnd hrng
 have h2:=mm_ (quoA A reps).f.length (ac_ (quoA A reps)) fun i hi=>mz_ hk h ⟨by omega,by rw [e1_] at hi;omega⟩
 exact⟨by omega,hnd,hrng⟩
theorem r7_ {A:Au} {reps:List Int} (hk:chk A=0) (h:RepsOk A reps):abu (quoA A reps) (cq_ (quoA A reps).f.length (ac_ (quoA A reps)))=(q7_ (quoA A reps),0):=by
 obtain⟨h1,h2⟩:=ku_ (hc_ hk h)
 rw [pi_ h1,h2]
 rfl
end Go.Mn
