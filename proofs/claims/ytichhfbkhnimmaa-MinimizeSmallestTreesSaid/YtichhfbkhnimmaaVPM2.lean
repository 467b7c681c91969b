/- A flat partition, seen from the world. No condition. -/
import Derived.Test.YtichhfbkhnimmaaVKD
import Derived.Maps.OwnSet
import Derived.Maps.OwnOps
import Derived.Maps.Views
set_option linter.unusedSimpArgs false
set_option linter.unusedVariables false
set_option maxHeartbeats 4000000
set_option maxRecDepth 8000
namespace Go.Proofs.Ytichhfbkhnimmaa
open Go Go.RowKit Go.PP Go.Dm Go.Rt Go.Mn
structure PartX (w:World) (p u:Nat) (c:Nat × Nat) (U:List Int):Prop where
 pos:0<U.length
 ex:∃ cur fz T,w.heap[p]?=some (.cells #[.slice (some ⟨u,c.1,none⟩) U.length c.2] T (0,0))∧w.heap[u]?=some (.cells cur 3 fz)∧(fz=(0,0)∨cur.size≤fz.1)∧U.length≤c.2∧c.2≤maxLen∧c.1+c.2*1≤cur.size∧(cur.toList.drop c.1).take (U.length*1)=U.map (Value.int .i64)
theorem PartX.plt {w:World} {p u:Nat} {c:Nat × Nat} {U:List Int} (h:PartX w p u c U):p<w.heap.size:=by
 obtain⟨_,_,_,_,hp,_⟩:=h
 exact (Array.getElem?_eq_some_iff.1 hp).1
theorem PartX.ult {w:World} {p u:Nat} {c:Nat × Nat} {U:List Int} (h:PartX w p u c U):u<w.heap.size:=by
 obtain⟨_,_,_,_,hp,hu,_⟩:=h
 exact (Array.getElem?_eq_some_iff.1 hu).1
theorem PartX.mut {w w':World} {p u:Nat} {c:Nat × Nat} {U:List Int} (h:PartX w p u c U) {S:Nat→Prop} (m:Mut S w w') (hp:¬ S p) (hu:¬ S u):PartX w' p u c U:=by
 obtain⟨h1,cur,fz,T,h3,h4,h5⟩:=h
 exact⟨h1,cur,fz,T,m.heap h3 hp,m.heap h4 hu,h5⟩
theorem m6_ {M:Nat→Prop} {w:World} {G:Cx}:∀ (U:List Int),RepL M w G (U.map fun x=>D.flat (.int .i64 x)) (U.map (Value.int .i64))
 | []=>by simp only [List.map_nil,RepL]
 |x::U=>by
  simp only [List.map_cons,RepL]
  exact⟨_,_,rfl,by simp only [Rep],m6_ U⟩
theorem j6_ {M:Nat→Prop} {w:World} {G:Cx}:∀ (U:List Int) (vs:List Value),RepL M w G (U.map fun x=>D.flat (.int .i64 x)) vs→vs=U.map (Value.int .i64)
 | [],vs,h=>by simpa only [List.map_nil,RepL] using h
 |x::U,vs,h=>by
  simp only [List.map_cons,RepL] at h
  obtain⟨u,us,rfl,h1,h2⟩:=h
  simp only [Rep] at h1
  rw [h1,j6_ U us h2];rfl
abbrev peX (a b:Nat) (U:List Int):Sg:=[(a,some (.box [.own b U.length])),(b,some (.row 3 1 U.length (U.map fun x=>D.flat (.int .i64 x))))]
theorem wr_ {a b id:Nat} {U:List Int} {e:Ent} (hab:a≠b) (h:lkE (peX a b U) id=some e):(id=a∧e= .box [.own b U.length])∨(id=b∧e= .row 3 1 U.length (U.map fun x=>D.flat (.int .i64 x))):=by
 simp only [peX,lkE] at h
 by_cases h1:a=id
 ·subst h1
  simp at h
  exact .inl ⟨rfl,h.symm⟩
 ·rw [show (a == id)=false by simpa using h1,cond_false] at h
  by_cases h2:b=id
  ·subst h2
   simp at h
   exact .inr ⟨rfl,h.symm⟩
  ·rw [show (b == id)=false by simpa using h2,cond_false] at h
   cases h
theorem ih_ (a b:Nat) (U:List Int):lkE (peX a b U) a=some (.box [.own b U.length]):=by simp [peX,lkE]
theorem e4_ {a b:Nat} (U:List Int) (hab:a≠b):lkE (peX a b U) b=some (.row 3 1 U.length (U.map fun x=>D.flat (.int .i64 x))):=by
 simp only [peX,lkE]
 rw [show (a == b)=false by simpa using hab];simp
theorem hz_ {g:Gh} {a b id k u:Nat} {c:Nat × Nat} {U:List Int} (hab:a≠b) (hr:g.row b= .slice (some ⟨u,c.1,none⟩) U.length c.2) (h:blkOf g (peX a b U) id=some k):(id=a∧k=g.blk a)∨(id=b∧k=u):=by
 unfold blkOf at h
 cases hl:lkE (peX a b U) id with
 |none=>rw [hl] at h;cases h
 |some e=>
  rw [hl] at h
  rcases wr_ hab hl with⟨rfl,rfl⟩| ⟨rfl,rfl⟩
  ·exact .inl ⟨rfl,(Option.some.inj h).symm⟩
  ·simp only [hr,Value.ownBlock] at h
   exact .inr ⟨rfl,(Option.some.inj h).symm⟩
theorem sa_ {M0:Nat→Prop} {w:World} {g:Gh} {a b u:Nat} {c:Nat × Nat} (hab:a≠b) {U:List Int} (hr:g.row b= .slice (some ⟨u,c.1,none⟩) U.length c.2) (hne:g.blk a≠u) (hM:¬ M0 (g.blk a)) (hMu:¬ M0 u) (h:PartX w (g.blk a) u c U):Hold M0 w g (peX a b U):=by
 have hp:=h.plt
 have hu:=h.ult
 obtain⟨h1,cur,fz,T,h3,h4,h5,h6,h7,h8,h9⟩:=h
 refine⟨fun id e he=>?_,fun id id' k q1 q2=>?_,fun id k q=>?_⟩
 ·rcases wr_ hab he with⟨rfl,rfl⟩| ⟨rfl,rfl⟩
  ·refine⟨[.slice (some ⟨u,c.1,none⟩) U.length c.2],_,h3,?_,ObjIs.mk rfl⟩
   simp only [RepL]
   refine⟨_,_,rfl,?_,rfl⟩
   simp only [Rep]
   exact⟨g,_,rfl,.inr ⟨3,1,_,_,e4_ U hab,Nat.le_refl _,fun _=>hr.symm⟩,_,_,rfl⟩
  ·exact⟨U.map (Value.int .i64),⟨by simp,.inr ⟨u,c.1,c.2,cur,fz,hr,h4,h5,h6,h7,h8,h9⟩⟩,m6_ U⟩
 ·rcases hz_ hab hr q1 with⟨rfl,r1⟩| ⟨rfl,r1⟩
  ·rcases hz_ hab hr q2 with⟨rfl,r2⟩| ⟨rfl,r2⟩
   ·rfl
   ·exact absurd (r1.symm.trans r2) hne
  ·rcases hz_ hab hr q2 with⟨rfl,r2⟩| ⟨rfl,r2⟩
   ·exact absurd (r2.symm.trans r1) hne
   ·rfl
 ·rcases hz_ hab hr q with⟨rfl,rfl⟩| ⟨rfl,rfl⟩
  ·exact⟨hp,hM⟩
  ·exact⟨hu,hMu⟩
theorem ry_ {M0:Nat→Prop} {w:World} {g:Gh} {a b:Nat} (hab:a≠b) {U:List Int} (hpos:0<U.length) (h:Hold M0 w g (peX a b U)):∃ (u:Nat) (c:Nat × Nat),g.row b= .slice (some ⟨u,c.1,none⟩) U.length c.2∧g.blk a≠u∧ ¬ M0 (g.blk a)∧ ¬ M0 u∧PartX w (g.blk a) u c U:=by
 obtain⟨vs,o,h1,h2,h3⟩:=h.ent a _ (ih_ a b U)
 obtain⟨us,h4,h5⟩:=h.ent b _ (e4_ U hab)
 have h5:=j6_ U us h5
 subst h5
 obtain⟨-,⟨-,q⟩| ⟨u,off,c,cur,fz,e1,e2,e3,e4,e5,e6,e7⟩⟩:=h4
 ·omega
 have ba:blkOf g (peX a b U) a=some (g.blk a):=by unfold blkOf;rw [ih_]
 have bb:blkOf g (peX a b U) b=some u:=by unfold blkOf;rw [e4_ U hab];simp only [e1,Value.ownBlock]
 refine⟨u,(off,c),e1,fun e=>hab (h.sep a b _ ba (by rw [bb,e])),(h.new a _ ba).2,(h.new b _ bb).2,hpos,cur,fz,?_⟩
 simp only [RepL] at h2
 obtain⟨v,vs',rfl,h2,rfl⟩:=h2
 simp only [Rep] at h2
 obtain⟨g',σ',q1,q2, -⟩:=h2
 have q1:=Option.some.inj q1
 obtain⟨rfl,rfl⟩:=Prod.mk.inj q1
 have q3:=(hc_ (e4_ U hab) q2).2 rfl
 subst q3
 unfold ObjIs at h3
 obtain⟨T,rfl⟩:=h3
 exact⟨T,by rw [h1,e1],e2,e3,e4,e5,e6,e7⟩
theorem vj_ {w:World} {S:Nat→Prop}:GlOk w S:=by
 refine⟨fun p hp=>(by cases hp),fun b hb=>?_⟩
 obtain⟨cs,hc⟩:=hb
 cases hc
theorem t8_ {k:FuncId} {a b:Nat} (hab:a≠b) {U:List Int} {more:List D} {v:Value} (hf:DLend Try.prog k (.ref a 0::more) (peX a b U) (peX a b U) (.flat v)) {w:World} {p u:Nat} {c:Nat × Nat} (hne:p≠u) (h:PartX w p u c U) {vals:List Value} (hm:∀ M w G,RepL M w G more vals):
  Calls Try.prog k (Value.pointer (some ⟨p,0,none⟩)::vals).toArray w (fun e w'=>e= .returned v∧PartX w' p u c U∧Mut (fun b=>b=p∨b=u) w w'):=by
 have hr:(⟨fun _=>p,fun _=> .slice (some ⟨u,c.1,none⟩) U.length c.2⟩:Gh).row b= .slice (some ⟨u,c.1,none⟩) U.length c.2:=rfl
 refine (hf.go (fun _=>False) ⟨fun _=>p,fun _=> .slice (some ⟨u,c.1,none⟩) U.length c.2⟩ w _ (fun _ h=>h.elim) (sa_ hab hr hne id id h) ?_ vj_).mono ?_
 ·simp only [RepL]
  refine⟨_,_,rfl,?_,hm _ _ _⟩
  simp only [Rep]
  exact⟨_,_,_,rfl,ih_ a b U,rfl⟩
 ·rintro e w' ⟨v',g',rfl,h1,h2,h3,h4,h5⟩
  simp only [Rep] at h5
  subst h5
  obtain⟨u',c',e1,e2, -, -,e3⟩:=ry_ hab h.pos h3
  have hb:=(h2.box a _ (ih_ a b U)).2
  simp only at hb
  rcases h2.row b _ _ _ _ (e4_ U hab) with hd| ⟨e',n',l',cs',q1,q2,q3⟩
  ·simp only at hd;rw [e4_ U hab] at hd;cases hd
  ·simp only at q1;rw [e4_ U hab] at q1
   simp only [Option.some.injEq,Ent.row.injEq] at q1
   obtain⟨-, -,q1, -⟩:=q1
   have q3:=q3 q1.symm
   simp only at q3
   rw [e1] at q3
   simp only [Value.slice.injEq,Option.some.injEq,Addr.mk.injEq,and_true,true_and] at q3
   obtain⟨⟨rfl,r1⟩,r2⟩:=q3
   have hcc:c'=c:=Prod.ext r1 r2
   subst hcc
   rw [hb] at e3
   refine⟨rfl,e3,h1.mono fun i _ ⟨id,hid⟩=>?_⟩
   rcases hz_ hab hr hid with⟨-,r⟩| ⟨-,r⟩
   ·exact .inl r
   ·exact .inr r
theorem rq_ {k:FuncId} {a b:Nat} (hab:a≠b) {U:List Int} (hpos:0<U.length) {v:Value} (hf:∀ (w:World) (p u:Nat) (c:Nat × Nat),p≠u→PartX w p u c U→Calls Try.prog k #[.pointer (some ⟨p,0,none⟩)] w (fun e w'=>e= .returned v∧PartX w' p u c U∧Mut (fun b=>b=p∨b=u) w w')):DLend Try.prog k [.ref a 0] (peX a b U) (peX a b U) (.flat v):=by
 refine⟨fun M0 g w vals hM hh hv hg=>?_⟩
 obtain⟨u,c,hr,hne,hMp,hMu,hP⟩:=ry_ hab hpos hh
 simp only [RepL] at hv
 obtain⟨x,vs,rfl,hx,rfl⟩:=hv
 simp only [Rep] at hx
 obtain⟨g',σ',cs,q1,q2,rfl⟩:=hx
 have q1:=Option.some.inj q1
 obtain⟨rfl,rfl⟩:=Prod.mk.inj q1
 have ba:blkOf g (peX a b U) a=some (g.blk a):=by unfold blkOf;rw [ih_]
 have bb:blkOf g (peX a b U) b=some u:=by unfold blkOf;rw [e4_ U hab];simp only [hr,Value.ownBlock]
 refine (hf w (g.blk a) u c hne hP).mono ?_
 rintro e w' ⟨rfl,h1,h2⟩
 exact⟨v,g,rfl,h2.mono fun i _ hi=>by rcases hi with rfl|rfl <;> exact⟨_,by assumption⟩,Grow.refl _,sa_ hab hr hne hMp hMu h1,fun id b' hb _=>⟨id,hb⟩,by simp only [Rep]⟩
end Go.Proofs.Ytichhfbkhnimmaa
namespace Go.PP
open Go Go.RowKit Go.Maps
structure KeyEnc (P:Program) (k:TypeId) (κ:Type) where
 enc:κ→Value
 ok:κ→Prop
 lit:κ→Lit
 law:Keyed P k
 key:∀ x,ok x→keyOf P k (enc x)=some (lit x)
 inj:∀ x y,ok x→ok y→enc x=enc y→x=y
theorem KeyEnc.lit_ne {P:Program} {k:TypeId} {κ:Type} (E:KeyEnc P k κ) {x y:κ} (hx:E.ok x) (hy:E.ok y) (h:x≠y):E.lit x≠E.lit y:=fun e=>
 h (E.inj x y hx hy (E.law.inj (E.key x hx) (by rw [e];exact E.key y hy)))
section
variable {P:Program} {k e:TypeId} {κ:Type} (E:KeyEnc P k κ)
def bh_ (e:TypeId) (w:World) (b n:Nat) (f:κ→Option Int):Prop:=
 ∃ D:DataW Unit,w.ownsMap P k (plainElem P e) b n D∧ ∀ x,E.ok x→(∀ z,D.atKey (E.lit x) z=match f x with|some c=> .lit (.int .i64 c)|none=>z)∧has D (E.lit x)=(f x).isSome
variable {E} {w:World} {b n:Nat} {f:κ→Option Int}
theorem bh_.made (w:World):bh_ E e (w.alloc (.map #[] 0)) w.heap.size 0 (fun _=>none):=
 ⟨.map [],World.ownsMap_made w P k _,fun x _=>⟨fun _=>rfl,rfl⟩⟩
theorem bh_.lt (h:bh_ E e w b n f):b<w.heap.size:=by obtain⟨D,h,_⟩:=h;exact h.lt
theorem bh_.mut {w':World} {S:Nat→Prop} (h:bh_ E e w b n f) (m:Mut S w w') (hb:¬ S b):bh_ E e w' b n f:=by
 obtain⟨D,⟨es,clock,h1,h2⟩,h3⟩:=h
 exact⟨D,⟨es,clock,m.heap h1 hb,h2⟩,h3⟩
variable {t:TypeId} (ht:P.underlying t=some (.map k e)) (he:P.underlying e=some (.int .i64)) (hz:∀ w,(zeroValue e).run P w= .ok (.int .i64 0) w)
include ht he hz
theorem bh_.look (h:bh_ E e w b n f) {x:κ} (hx:E.ok x) {c:Int} (hc:f x=some c):(Instr.lookup t (.map (some b)) (E.enc x) false).run P w= .ok (.int .i64 c) w:=by
 obtain⟨D,h1,h2⟩:=h
 obtain⟨c',hr,hat,_⟩:=h1.lookup_int E.law ht he (hz w) (E.key x hx)
 rw [(h2 x hx).1,hc] at hat
 simp at hat
 rw [hr,hat]
omit hz in
theorem bh_.put [DecidableEq κ] (h:bh_ E e w b n f) {x:κ} (hx:E.ok x) {c:Int} (hw:(Lit.int .i64 c).wf=true) (hn:n<maxLen):
  ∃ w',(Instr.mapUpdate t (.map (some b)) (E.enc x) (.int .i64 c)).run P w= .ok () w'∧bh_ E e w' b (n+1) (fun y=>if y=x then some c else f y)∧Mut (· =b) w w':=by
 obtain⟨D,h1,h2⟩:=h
 obtain⟨w',hr,h3,hg⟩:=h1.update E.law ht hn (E.key x hx) (plainElem_int he hw)
 refine⟨w',hr,⟨_,h3,fun y hy=>?_⟩,⟨hg.os,hg.tape,hg.output,hg.size,fun q hq hn=>hg.block q hq (fun e=>hn (by simpa using e))⟩⟩
 by_cases hxy:y=x
 ·subst hxy
  simp only [if_true]
  exact⟨fun z=>atKey_put_same h1.isMap (E.law.key (E.key y hy)) _ _,has_put_same h1.isMap (E.law.key (E.key y hy)) _⟩
 ·have hne:=E.lit_ne hy hx hxy
  simp only [if_neg hxy]
  exact⟨fun z=>by rw [atKey_put_other hne];exact (h2 y hy).1 z,by rw [has_put_other hne];exact (h2 y hy).2⟩
omit hz in
theorem kz_ [DecidableEq κ] {ops:Array Oper} {rest:List Oper} {o:Oper} {a:Act} {Q:Exit→Act→World→Prop}
  (hg:o.guard=none) (m q v:Operand) (hop:o.op=Op.mapUpdate t m q v) (x:κ) (c:Int) (h:bh_ E e w b n f) (hm:a.eval m= .map (some b)) (hq:a.eval q=E.enc x) (hv:a.eval v= .int .i64 c)
  (hx:E.ok x) (hw:(Lit.int .i64 c).wf=true) (hn:n<maxLen)
  (hK:∀ w',bh_ E e w' b (n+1) (fun y=>if y=x then some c else f y)→Mut (· =b) w w'→wpList P ops Q rest (a.put o.dst undef) w'):wpList P ops Q (o::rest) a w:=by
 refine wpList_plain hg fun K' hK'=>?_
 obtain⟨w',hrun,r1,r2⟩:=h.put ht he hx hw hn
 unfold Oper.wp
 simp [execOp,hop,hm,hq,hv,hrun,Result.andThen]
 exact hK' _ _ (hK w' r1 r2)
end
end Go.PP
namespace Go.PP
open Go Go.RowKit
structure OwnL (B:Nat) (e2 e1:TypeId) (w:World) (v:Value) (vs:List Value) (rss:List (List Int)):Prop where
 own:w.ownsRow B e2 1 v vs.length vs
 len:vs.length=rss.length
 rows:∀ (j:Nat) r u,rss[j]?=some r→vs[j]?=some u→w.ownsRow B e1 1 u (r.map (Value.int .i64)).length (r.map (Value.int .i64))
 sep:∀ (i j:Nat) a b g,i≠j→vs[i]?=some a→vs[j]?=some b→a.ownBlock=some g→b.ownBlock≠some g
 sepo:∀ (j:Nat) a g,vs[j]?=some a→a.ownBlock=some g→v.ownBlock≠some g
theorem OwnL.nil (B:Nat) (e2 e1:TypeId) (w:World):OwnL B e2 e1 w (.slice none 0 0) [] []:=
 ⟨World.ownsRow_nil _ _ _ _,rfl,fun j r u h=>by simp at h,fun i j a b g _ h=>by simp at h,fun j a g h=>by simp at h⟩
theorem bp_ {w:World} {B:Nat} {e:TypeId} {sz:Nat} {v:Value} {n:Nat} {cs:List Value} (h:w.ownsRow B e sz v n cs) {g:Nat} (hg:v.ownBlock=some g):B≤g∧ ∃ cur,w.heap[g]?=some (.cells cur e (0,0)):=by
 rcases h.2 with⟨rfl,_⟩| ⟨g',cap,cur,rfl,hb,hh,_⟩
 ·simp [Value.ownBlock] at hg
 ·simp [Value.ownBlock] at hg;subst hg;exact⟨hb,cur,hh⟩
theorem OwnL.mut {B:Nat} {e2 e1:TypeId} {w w':World} {v:Value} {vs:List Value} {rss:List (List Int)} (h:OwnL B e2 e1 w v vs rss) {S:Nat→Prop} (m:Mut S w w')
  (hS:∀ b,B≤b→S b→ ∀ c e f,w.heap[b]?≠some (.cells c e f)):OwnL B e2 e1 w' v vs rss:=by
 refine⟨h6_ h.own m (fun k hk hs=>?_),h.len,fun j r u h1 h2=>h6_ (h.rows j r u h1 h2) m (fun k hk hs=>?_),h.sep,h.sepo⟩
 ·obtain⟨hb,cur,hc⟩:=bp_ h.own hk;exact hS k hb hs _ _ _ hc
 ·obtain⟨hb,cur,hc⟩:=bp_ (h.rows j r u h1 h2) hk;exact hS k hb hs _ _ _ hc
theorem OwnL.push_nil {B:Nat} {e2 e1:TypeId} {w w':World} {v v':Value} {vs:List Value} {rss:List (List Int)} (h:OwnL B e2 e1 w v vs rss)
  (ho:w'.ownsRow B e2 1 v' (vs++ [Value.slice none 0 0]).length (vs++ [Value.slice none 0 0])) (hg:w.grownBy w' v.ownBlock) (hb:∀ k,v'.ownBlock=some k→v.ownBlock=some k∨k=w.heap.size):
  OwnL B e2 e1 w' v' (vs++ [.slice none 0 0]) (rss++ [[]]):=by
 have key:∀ (j:Nat) u,(vs++ [Value.slice none 0 0])[j]?=some u→(j<vs.length∧vs[j]?=some u)∨(j=vs.length∧u= .slice none 0 0):=fun j u hu=>by
  rcases Nat.lt_trichotomy j vs.length with e|e|e
  ·rw [List.getElem?_append_left e] at hu;exact .inl ⟨e,hu⟩
  ·subst e;rw [List.getElem?_append_right (Nat.le_refl _)] at hu;simp at hu;exact .inr ⟨rfl,hu.symm⟩
  ·rw [List.getElem?_eq_none (by simp;omega)] at hu;cases hu
 refine⟨ho,by simp [h.len],fun j r u h1 h2=>?_,fun i j a b g hij h1 h2 h3=>?_,fun j a g h1 h2 h3=>?_⟩
 ·rcases key j u h2 with⟨hj,hu⟩| ⟨hj,rfl⟩
  ·rw [List.getElem?_append_left (by rw [← h.len];exact hj)] at h1
   refine (h.rows j r u h1 hu).kept hg ?_
   cases hub:u.ownBlock with
   |none=>exact .inl rfl
   |some g=>exact .inr (fun e=>h.sepo j u g hu hub e.symm)
  ·rw [hj,h.len,List.getElem?_append_right (Nat.le_refl _)] at h1
   simp at h1;subst h1
   exact World.ownsRow_nil _ _ _ _
 ·rcases key i a h1 with⟨hi,ha⟩| ⟨hi,rfl⟩
  ·rcases key j b h2 with⟨hj,hb'⟩| ⟨hj,rfl⟩
   ·exact h.sep i j a b g hij ha hb' h3
   ·simp [Value.ownBlock]
  ·simp [Value.ownBlock] at h3
 ·rcases key j a h1 with⟨hj,ha⟩| ⟨hj,rfl⟩
  ·rcases hb g h3 with e|e
   ·exact h.sepo j a g ha h2 e
   ·    have:=((h.rows j (rss[j]'(by rw [← h.len];exact hj)) a (by simp) ha).lt g h2).2
        omega
  ·simp [Value.ownBlock] at h2
theorem OwnL.push_row {B:Nat} {e2 e1:TypeId} {w w':World} {v:Value} {vs:List Value} {rss:List (List Int)} (h:OwnL B e2 e1 w v vs rss) {j:Nat} {u u':Value} {r:List Int} {x:Int} (hr:rss[j]?=some r) (hu:vs[j]?=some u)
  (ho:w'.ownsRow B e1 1 u' (r.map (Value.int .i64)++ [Value.int .i64 x]).length (r.map (Value.int .i64)++ [Value.int .i64 x])) (hg:w.grownBy w' u.ownBlock) (hb:∀ k,u'.ownBlock=some k→u.ownBlock=some k∨k=w.heap.size)
  {g c:Nat} (hv:v= .slice (some ⟨g,0,none⟩) vs.length c) (w2:World) (hw2:w2=w'.setCell ⟨g,j,none⟩ u'):OwnL B e2 e1 w2 v (vs.set j u') (rss.set j (r++ [x])):=by
 have hjl:j<vs.length:=(List.getElem?_eq_some_iff.1 hu).1
 have hgv:v.ownBlock=some g:=by rw [hv];rfl
 have hug:∀ k,u.ownBlock=some k→k≠g:=fun k hk e=>h.sepo j u k hu hk (by rw [e];exact hgv)
 have hglt:g<w.heap.size:=(h.own.lt g hgv).2
 have hg':∀ k,u'.ownBlock=some k→k≠g:=fun k hk e=>by
  rcases hb k hk with h1|h1
  ·exact hug k h1 e
  ·omega
 have hvo:w'.ownsRow B e2 1 v vs.length vs:=h.own.kept hg (.inr (by rw [hgv];intro e;exact hug g e.symm rfl))
 have hset:∀ k,k≠g→w2.heap[k]?=w'.heap[k]?:=fun k hk=>by rw [hw2];exact Below.heap_setCell _ _ _ _ (by simpa using hk)
 have key:∀ (i:Nat) a,(vs.set j u')[i]?=some a→(i≠j∧vs[i]?=some a)∨(i=j∧a=u'):=fun i a ha=>by
  by_cases e:i=j
  ·subst e;rw [List.getElem?_set_self hjl] at ha;cases ha;exact .inr ⟨rfl,rfl⟩
  ·rw [List.getElem?_set_ne (fun x=>e x.symm)] at ha;exact .inl ⟨e,ha⟩
 have carry:∀ {e:TypeId} {z:Value} {n:Nat} {cs:List Value},w'.ownsRow B e 1 z n cs→(∀ k,z.ownBlock=some k→k≠g)→w2.ownsRow B e 1 z n cs:=fun {e z n cs} hz hk=>by
  refine⟨hz.1,?_⟩
  rcases hz.2 with hn| ⟨g',cap,cur,rfl,hb',hgg,rest⟩
  ·exact .inl hn
  ·exact .inr ⟨g',cap,cur,rfl,hb',by rw [hset g' (hk g' rfl)];exact hgg,rest⟩
 refine⟨?_,by simp [h.len],fun i r' a h1 h2=>?_,fun i k a b q hik h1 h2 h3=>?_,fun i a q h1 h2 h3=>?_⟩
 ·obtain ⟨hl,hn| ⟨g',cap,cur,hv',hb',hgg,h1,h2,h3,h4⟩⟩:=hvo
  ·rw [hv] at hn;simp at hn
  ·rw    [hv] at hv'
   simp only [Value.slice.injEq,Option.some.injEq,Addr.mk.injEq,and_true,true_and] at hv'
   obtain⟨rfl,rfl⟩:=hv'
   refine⟨by simp,.inr ⟨g,c,cur.setIfInBounds j u',by rw [hv];simp,hb',?_,by simpa using h1,h2,by simpa using h3,?_⟩⟩
   ·rw [hw2];simp [World.setCell,Array.getElem?_modify,hgg]
   ·    simp only [List.length_set,Array.toList_setIfInBounds]
        rw [List.take_set,h4]
 ·rcases key i a h2 with⟨hi,ha⟩| ⟨rfl,rfl⟩
  ·rw [List.getElem?_set_ne (fun x=>hi x.symm)] at h1
   refine carry ((h.rows i r' a h1 ha).kept hg ?_) (fun k hk e=>h.sepo i a k ha hk (by rw [e];exact hgv))
   cases hab:a.ownBlock with
   |none=>exact .inl rfl
   |some q=>exact .inr (fun e=>h.sep i j a u q hi ha hu hab e.symm)
  ·rw [List.getElem?_set_self (by rw [← h.len];exact hjl)] at h1
   cases h1
   rw [List.map_append]
   exact carry ho hg'
 ·rcases  key i a h1 with⟨hi,ha⟩| ⟨rfl,rfl⟩
  ·rcases key k b h2 with⟨hk,hb'⟩| ⟨rfl,rfl⟩
   ·exact h.sep i k a b q hik ha hb' h3
   ·    intro e
        rcases hb q e with h4|h4
        ·exact h.sep i k a u q hi ha hu h3 h4
        ·obtain⟨r0,hr0⟩:∃ r0,rss[i]?=some r0:=⟨rss[i]'(by rw [← h.len];exact (List.getElem?_eq_some_iff.1 ha).1),by simp⟩
         have:=((h.rows i r0 a hr0 ha).lt q h3).2
         omega
  ·rcases key k b h2 with⟨hk,hb'⟩| ⟨hk,rfl⟩
   ·    intro e
        rcases hb q h3 with h4|h4
        ·exact h.sep k i b u q hk hb' hu e h4
        ·obtain⟨r0,hr0⟩:∃ r0,rss[k]?=some r0:=⟨rss[k]'(by rw [← h.len];exact (List.getElem?_eq_some_iff.1 hb').1),by simp⟩
         have:=((h.rows k r0 b hr0 hb').lt q e).2
         omega
   ·exact absurd hk.symm hik
 ·rcases key i a h1 with⟨hi,ha⟩| ⟨rfl,rfl⟩
  ·exact h.sepo i a q ha h2 h3
  ·rw [hgv] at h3;cases h3
   exact hg' _ h2 rfl
end Go.PP
