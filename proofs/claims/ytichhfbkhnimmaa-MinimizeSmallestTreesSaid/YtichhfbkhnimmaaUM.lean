/- A machine over data: memory lent to a call, which may change it. No condition. -/
import Derived.Test.YtichhfbkhnimmaaUK
set_option linter.unusedSimpArgs false
set_option linter.unusedVariables false
set_option linter.unusedSectionVars false
set_option maxHeartbeats 400000
namespace Go.Dm
open Go Go.RowKit Go.PP
variable [GlobW]
theorem gr_ {u:Sg} {k:Nat} {x:Option Ent} (h:fnd u k=some x):lkE u k=x:=by
 have:=eq_ u [] k
 rw [List.append_nil,h] at this
 simpa using this
theorem nn_ {u:Sg} {k:Nat} (h:fnd u k=none):lkE u k=none:=by
 have:=eq_ u [] k
 rw [List.append_nil,h] at this
 simpa [lkE] using this
theorem hx_ {σ:Sg} {k:Nat} {x:Option Ent}:∀ {u:Sg},Ens σ u→fnd u k=some x→lkE σ k=x
 | [],_,h=>by simp [fnd] at h
 |(a,   b)::r,he,h=>by
  simp only [fnd] at h
  by_cases e:a=k
  ·subst e;simp at h;rw [← h];exact he.1
  ·have  hb:(a == k)=false:=by
        cases hb:(a == k) with
        |false=>rfl
        |true=>exact absurd (eq_of_beq hb) e
   simp [hb,e] at h;exact hx_ he.2 h
theorem o8_ {k:Nat}:∀ {u v:Sg},keys u=keys v→(fnd u k).isSome=(fnd v k).isSome
 | [],[],_=>rfl
 | [],_::_,h=>by simp [keys] at h
 |_::_,[],h=>by simp [keys] at h
 |(a,b)::r,(a',b')::r',h=>by
  simp only [keys,List.map_cons,List.cons.injEq] at h
  obtain⟨rfl,h⟩:=h
  simp only [fnd]
  have ih:=o8_ (k:=k) (u:=r) (v:=r') h
  cases (a == k) <;> simp [ih]
structure Hold (M0:Nat→Prop) (w:World) (g:Gh) (σ:Sg):Prop where
 ent:∀ id e,lkE σ id=some e→EntOk (Mx M0 g σ) w g σ id e
 sep:∀ id id' b,blkOf g σ id=some b→blkOf g σ id'=some b→id=id'
 new:∀ id b,blkOf g σ id=some b→b<w.heap.size∧ ¬ M0 b
def LendPost (M0:Nat→Prop) (w:World) (g:Gh) (pe we:Sg) (d:D) (e:Ending) (w':World):Prop:=
 ∃  v g',e= .returned v∧Mut (fun b=> ∃ id,blkOf g pe id=some b) w w'∧Grow (g,pe) (g',we)∧Hold M0 w' g' we∧
    (∀ id b,blkOf g' we id=some b→b<w.heap.size→ ∃ id',blkOf g pe id'=some b)∧Rep (Mx M0 g' we) w' (some (g',we)) d v
structure DLend (P:Program) (k:FuncId) (args:List D) (pe we:Sg) (d:D):Prop where
 intro::
 go:∀ (M0:Nat→Prop) (g:Gh) (w:World) (vals:List Value),(∀ b,M0 b→b<w.heap.size)→Hold M0 w g pe→RepL (Mx M0 g pe) w (some (g,pe)) args vals→GlOk w (fun b=> ∃ id,blkOf g pe id=some b)→Calls P k vals.toArray w (LendPost M0 w g pe we d)
def Vl (pe:Sg) (d d':D):Prop:= ∀ (M:Nat→Prop) (w:World) (g:Gh) (σ:Sg),Ens σ pe→(∀ b,M b→b<w.heap.size)→ ∀ v,Rep M w (some (g,σ)) d v→Rep M w (some (g,pe)) d' v
def VlL (pe:Sg):List D→List D→Prop
 | [],[]=>True
 |d::ds,e::es=>Vl pe d e∧VlL pe ds es
 |_,_=>False
variable {pe:Sg}
theorem VlL.rep {M:Nat→Prop} {w:World} {g:Gh} {σ:Sg} (he:Ens σ pe) (hM:∀ b,M b→b<w.heap.size):∀ {ds es:List D} {vs:List Value},VlL pe ds es→RepL M w (some (g,σ)) ds vs→RepL M w (some (g,pe)) es vs
 | [],[],vs,_,h=>by simpa only [RepL] using h
 |d::ds,e::es,vs,hl,h=>by
  simp only [RepL] at h ⊢
  obtain⟨u,us,h1,h2,h3⟩:=h
  exact⟨u,us,h1,hl.1 M w g σ he hM _ h2,VlL.rep he hM hl.2 h3⟩
 | [],_::_,_,h,_=>h.elim
 |_::_,[],_,h,_=>h.elim
theorem Vl.pers {d:D} (h:Dm.pers d=true):Vl pe d d:=fun M w g σ _ _ v hv=>(hv.down d v h).up
theorem Vl.le {d d1 d2:D} (h:Vl pe d d1) (hl:Le d1 d2):Vl pe d d2:=fun M w g σ he hM v hv=>hl _ _ _ _ hM (h M w g σ he hM v hv)
theorem Vl.p {d d':D} (h:Dm.pers d=true) (hl:Le d d'):Vl pe d d':=Vl.le (Vl.pers h) hl
theorem Vl.ref {id off:Nat} {cs:List D} (hm:fnd pe id=some (some (.box cs))):Vl pe (.ref id off) (.ref id off):=fun M w g σ he _ v hv=>by
 simp only [Rep] at hv ⊢
 obtain⟨g',σ1,cs1,hG,h1,h2⟩:=hv
 cases hG
 exact⟨g,pe,cs,rfl,gr_ hm,h2⟩
theorem Vl.own {id L e n:Nat} {cs:List D} (hm:fnd pe id=some (some (.row e n L cs))):Vl pe (.own id L) (.own id L):=fun M w g σ he _ v hv=>by
 simp only [Rep] at hv ⊢
 obtain⟨g',σ1,hG,h1,h4⟩:=hv
 cases hG
 exact⟨g,pe,rfl,.inr ⟨e,n,L,cs,gr_ hm,Nat.le_refl _,(hc_ (hx_ he hm) h1).2⟩,h4⟩
theorem Vl.agg {cs cs':List D} (h:VlL pe cs cs'):Vl pe (.agg cs) (.agg cs'):=fun M w g σ he hM v hv=>by
 simp only [Rep] at hv ⊢
 obtain⟨vs,q1,q2⟩:=hv
 exact⟨vs,q1,VlL.rep he hM h q2⟩
theorem Vl.tup {cs cs':List D} (h:VlL pe cs cs'):Vl pe (.tup cs) (.tup cs'):=fun M w g σ he hM v hv=>by
 simp only [Rep] at hv ⊢
 obtain⟨vs,q1,q2⟩:=hv
 exact⟨vs,q1,VlL.rep he hM h q2⟩
theorem Vl.clo {fn:Fn} {cs cs' es es':List D} (h:VlL pe cs cs') (h2:VlL pe es es'):Vl pe (.clo fn cs es) (.clo fn cs' es'):=fun M w g σ he hM v hv=>by
 simp only [Rep] at hv ⊢
 obtain⟨vs,us,q1,q2,q3⟩:=hv
 exact⟨vs,us,q1,VlL.rep he hM h q2,VlL.rep he hM h2 q3⟩
theorem VlL.pers:∀ {ds:List D},persL ds=true→VlL pe ds ds
 | [],_=>trivial
 |d::ds,h=>by
  simp only [persL,Bool.and_eq_true] at h
  exact⟨Vl.pers h.1,VlL.pers h.2⟩
def EsL (pe:Sg):Sg→Prop
 | []=>True
 |(_, e)::r=>(match e with
     |none=>True
     |some .dead=>True
     |some (.box cs)=>VlL pe cs cs
     |some (.row _ _ _ cs)=>VlL pe cs cs)∧EsL pe r
theorem EsL.at:∀ {τ:Sg},EsL pe τ→ ∀ id,(∀ cs,lkE τ id=some (.box cs)→VlL pe cs cs)∧(∀ e n L cs,lkE τ id=some (.row e n L cs)→VlL pe cs cs)
 | [],_,id=>⟨fun cs h=>by simp [lkE] at h,fun e n L cs h=>by simp [lkE] at h⟩
 |(k,x)::r,h,id=>by
  rw [aa_]
  by_cases e:k=id
  ·rw [if_pos e]
   have h1:=h.1
   refine⟨fun cs hc=>?_,fun e n L cs hc=>?_⟩
   ·subst hc;exact h1
   ·subst hc;exact h1
  ·rw [if_neg e];exact EsL.at h.2 id
section
variable {P:Program} {N:Nat} {we:Sg}
theorem EntOk.step {M M' S:Nat→Prop} {w w':World} {g g':Gh} {σ σ':Sg} (hG:Grow (g,σ) (g',σ')) (m:Mut S w w') (hS:∀ b,b<w.heap.size→S b→M b) (hM:∀ b,b<w.heap.size→M' b→M b) {id:Nat} {e:Ent}
  (hb:∀ cs,e= .box cs→g'.blk id=g.blk id∧ ¬ S (g.blk id)) (hr:∀ e1 n len cs,e= .row e1 n len cs→g'.row id=g.row id∧ ∀ b,(g.row id).ownBlock=some b→ ¬ S b) (h:EntOk M w g σ id e):EntOk M' w' g' σ' id e:=by
 cases e with
 |box cs=>
  obtain⟨vs,T,h1,h2,h3⟩:=h
  obtain⟨q1,q2⟩:=hb cs rfl
  exact⟨vs,T,by rw [q1];exact m.heap h1 q2,RepL.step (G:=some _) (G':=some _) hG m hS hM cs vs h2,h3⟩
 |row e1 n len cs=>
  obtain⟨vs,h1,h2⟩:=h
  obtain⟨q1,q2⟩:=hr e1 n len cs rfl
  exact⟨vs,by rw [q1];exact h1.mut m q2,RepL.step (G:=some _) (G':=some _) hG m hS hM cs vs h2⟩
 |dead=>trivial
def Xl (M0:Nat→Prop) (g:Gh) (σ lp gp:Sg) (b:Nat):Prop:=M0 b∨ ∃ id,(fnd lp id).isSome=false∧(fnd gp id).isSome=false∧blkOf g σ id=some b
def Vg (lp gp:Sg) (d d':D):Prop:= ∀ (w0:World) (M0:Nat→Prop) (B0:Bd) (N:Nat) (g:Gh) (s:DS) (a:Act) (w:World),StG w0 M0 B0 N g s a w→Ens s.σ (lp++gp)→ ∀ v,Rep (Mx M0 g s.σ) w (some (g,s.σ)) d v→Rep (Mx (Xl M0 g s.σ lp gp) g lp) w (some (g,lp)) d' v
def VgL (lp gp:Sg):List D→List D→Prop
 | [],[]=>True
 |d::ds,e::es=>Vg lp gp d e∧VgL lp gp ds es
 |_,_=>False
theorem Ens.left {σ:Sg}:∀ {l r:List (Nat × Option Ent)},Ens σ (l++r)→Ens σ l
 | [],_,_=>trivial
 |p::l,r,h=>⟨h.1,Ens.left h.2⟩
theorem Ens.right {σ:Sg}:∀ {l r:List (Nat × Option Ent)},Ens σ (l++r)→Ens σ r
 | [],_,h=>h
 |p::l,r,h=>Ens.right h.2
theorem ls_ {g:Gh} {σ lp:Sg} (he:Ens σ lp) {id b:Nat} (h:blkOf g lp id=some b):(fnd lp id).isSome=true∧blkOf g σ id=some b:=by
 cases hb:fnd lp id with
 |none=>unfold blkOf at h;rw [nn_ hb] at h;cases h
 |some x=>
  refine⟨rfl,?_⟩
  unfold blkOf at h ⊢
  rw [hx_ he hb]
  rw [gr_ hb] at h
  exact h
theorem Xl.sub {M0:Nat→Prop} {g:Gh} {σ lp gp:Sg} (he:Ens σ lp) {b:Nat} (h:Mx (Xl M0 g σ lp gp) g lp b):Mx M0 g σ b:=by
 rcases h with (h| ⟨id,_,_,h⟩)| ⟨id,h⟩
 ·exact .inl h
 ·exact .inr ⟨id,h⟩
 ·exact .inr ⟨id,(ls_ he h).2⟩
theorem Vg.of {lp gp:Sg} {d d':D} (h:Vl lp d d'):Vg lp gp d d':=fun w0 M0 B0 N g s a w hs he v hv=>
 h _ w g s.σ he.left (fun b hb=>hs.mlt b (Xl.sub he.left hb)) v (hv.mono fun b _ hb=>Xl.sub he.left hb)
theorem Vg.give {lp gp:Sg} {d d':D} (hd:∀ id,id∈keys gp→(fnd lp id).isSome=false) (h:Vw gp d d'):Vg lp gp d d':=fun w0 M0 B0 N g s a w hs he v hv=>by
 refine (Rep.mono (h w0 M0 B0 N g s a w hs he.right v hv) fun b _ hb=>?_).up
 rcases hb with (hb| ⟨id,h1,h2,hb⟩)| ⟨id,hb⟩
 ·exact .inl hb
 ·refine .inr ⟨id,fun hk=>?_,hb⟩
  obtain⟨x,hx⟩:=gu_ hk
  rw [hx] at h2;cases h2
 ·obtain⟨q1,q2⟩:=ls_ he.left hb
  refine .inr ⟨id,fun hk=>?_,q2⟩
  rw [hd id hk] at q1;cases q1
theorem VgL.of {lp gp:Sg}:∀ {ds es:List D},VlL lp ds es→VgL lp gp ds es
 | [],[],_=>trivial
 |d::ds,e::es,h=>⟨Vg.of h.1,VgL.of h.2⟩
 | [],_::_,h=>h.elim
 |_::_,[],h=>h.elim
theorem VgL.rep {lp gp:Sg} {w0:World} {M0:Nat→Prop} {B0:Bd} {N:Nat} {g:Gh} {s:DS} {a:Act} {w:World} (hs:StG w0 M0 B0 N g s a w) (he:Ens s.σ (lp++gp)):∀ {ds es:List D} {vs:List Value},VgL lp gp ds es→RepL (Mx M0 g s.σ) w (some (g,s.σ)) ds vs→RepL (Mx (Xl M0 g s.σ lp gp) g lp) w (some (g,lp)) es vs
 | [],[],vs,_,h=>by simpa only [RepL] using h
 |d::ds,e::es,vs,hl,h=>by
  simp only [RepL] at h ⊢
  obtain⟨u,us,h1,h2,h3⟩:=h
  exact⟨u,us,h1,hl.1 _ _ _ _ _ _ _ _ hs he _ h2,VgL.rep hs he hl.2 h3⟩
 | [],_::_,_,h,_=>h.elim
 |_::_,[],_,h,_=>h.elim
def EsG (lp gp:Sg):Sg→Prop
 | []=>True
 |(_, e)::r=>(match e with
     |none=>True
     |some .dead=>True
     |some (.box cs)=>VgL lp gp cs cs
     |some (.row _ _ _ cs)=>VgL lp gp cs cs)∧EsG lp gp r
theorem EsG.at {lp gp:Sg}:∀ {τ:Sg},EsG lp gp τ→ ∀ id,(∀ cs,lkE τ id=some (.box cs)→VgL lp gp cs cs)∧(∀ e n L cs,lkE τ id=some (.row e n L cs)→VgL lp gp cs cs)
 | [],_,id=>⟨fun cs h=>by simp [lkE] at h,fun e n L cs h=>by simp [lkE] at h⟩
 |(k,x)::r,h,id=>by
  rw [aa_]
  by_cases e:k=id
  ·rw [if_pos e]
   have h1:=h.1
   refine⟨fun cs hc=>?_,fun e n L cs hc=>?_⟩
   ·subst hc;exact h1
   ·subst hc;exact h1
  ·rw [if_neg e];exact EsG.at h.2 id
theorem EsG.of {lp gp:Sg}:∀ {τ:Sg},EsL lp τ→EsG lp gp τ
 | [],_=>trivial
 |(k,x)::r,h=>by
  refine⟨?_,EsG.of h.2⟩
  have h1:=h.1
  match x with
  |none=>trivial
  |some .dead=>trivial
  |some (.box cs)=>exact VgL.of h1
  |some (.row _ _ _ cs)=>exact VgL.of h1
def deads (gp:Sg):Sg:=gp.map fun p=>(p.1,some Ent.dead)
theorem iv_ (id:Nat):∀ gp:Sg,fnd (deads gp) id=if (fnd gp id).isSome then some (some .dead) else none
 | []=>rfl
 |(k,x)::r=>by
  have ih:=iv_ id r
  by_cases hb:k=id
  ·subst hb;simp [deads,fnd]
  ·have hb':(k == id)=false:=by simpa using hb
   simp only [deads,List.map_cons,fnd,hb',cond_false] at ih ⊢
   exact ih
theorem ff_ (id:Nat):∀ u v:Sg,fnd (u++v) id=(fnd u id).or (fnd v id)
 | [],v=>by simp [fnd]
 |(k,x)::r,v=>by
  have ih:=ff_ id r v
  by_cases hb:k=id
  ·subst hb;simp [fnd]
  ·have hb':(k == id)=false:=by simpa using hb
   simp only [List.cons_append,fnd,hb',cond_false]
   exact ih
def isRowE:Option Ent→Bool
 |some (.row ..)=>true
 |_=>false
theorem yk_ {gp:Sg} (h:(gp.all fun p=>isRowE p.2)=true) {id:Nat} (hi:(fnd gp id).isSome=true):∃ e n len cs,lkE gp id=some (.row e n len cs):=by
 induction gp with
 |nil=>simp [fnd] at hi
 |cons p r ih=>
  obtain⟨k,x⟩:=p
  simp only [List.all_cons,Bool.and_eq_true] at h
  simp only [fnd] at hi
  simp only [lkE]
  by_cases hb:k=id
  ·subst hb
   simp only [beq_self_eq_true,cond_true]
   match x,h.1 with
   |some (.row e n len cs),_=>exact⟨e,n,len,cs,rfl⟩
  ·have hb':(k == id)=false:=by simpa using hb
   simp only [hb',cond_false] at hi ⊢;exact ih h.2 hi
theorem wq_ {id:Nat}:∀ {u:Sg},(u.all fun p=>p.2.isSome || newId N p.1)=true→(fnd u id).isSome=true→lkE u id=none→newId N id=true
 | [],_,h,_=>by simp [fnd] at h
 |(k,x)::r,ha,h,hn=>by
  simp only [List.all_cons,Bool.and_eq_true] at ha
  simp only [fnd] at h
  simp only [lkE] at hn
  by_cases hb:k=id
  ·subst hb
   simp only [beq_self_eq_true,cond_true] at hn
   subst hn
   simpa using ha.1
  ·have hb':(k == id)=false:=by simpa using hb
   simp only [hb',cond_false] at h hn
   exact wq_ ha.2 h hn
section
variable [Rnd]
def LendC (C:Gh→Array Value→World→(Ending→World→Prop)→Prop) (args:List D) (pe we:Sg) (d:D):Prop:=
 ∀ (M0:Nat→Prop) (g:Gh) (w:World) (vals:List Value),(∀ b,M0 b→b<w.heap.size)→Hold M0 w g pe→RepL (Mx M0 g pe) w (some (g,pe)) args vals→GlOk w (fun b=> ∃ id,blkOf g pe id=some b)→C g vals.toArray w (LendPost M0 w g pe we d)
theorem DLend.lendC {k:FuncId} {args:List D} {pe we:Sg} {d:D} (h:DLend P k args pe we d):LendC (fun _ vals w R=>Calls P k vals w R) args pe we d:=fun M0 g w vals hM hh hv hg=>h.go M0 g w vals hM hh hv hg
theorem mn_ {C:Gh→Array Value→World→(Ending→World→Prop)→Prop} {d:D} {args:List D} {lp lw gp:Sg} (hf:LendC C args lp lw d) (hmono:∀ (g:Gh) (vals:Array Value) (w:World) (R R':Ending→World→Prop),(∀ e w',R e w'→R' e w')→C g vals w R→C g vals w R') (hkeys:keys lp=keys lw) (hnew:(lp.all fun p=>p.2.isSome || newId N p.1)=true) (hrows:(gp.all fun p=>isRowE p.2)=true) (hdis:∀ id,(fnd lp id).isSome=true→(fnd gp id).isSome=false) (hE:EsG lp gp lp)
  {w0:World} {M0:Nat→Prop} {B0:Bd} {g:Gh} {s:DS} {a:Act} {w:World} (hs:StG w0 M0 B0 N g s a w) (h2:Ens s.σ (lp++gp)) {dst:Option Tmp} (hd:dstOk N dst=true) {vals:List Value} (hargs:RepL (Mx (Xl M0 g s.σ lp gp) g lp) w (some (g,lp)) args vals):
  C g vals.toArray w (fun e w'=> ∃ v g2,e= .returned v∧StG w0 M0 B0 N g2 ⟨updF s.f dst d,lw++deads gp++s.σ⟩ (a.put dst v) w'∧Grow (g,s.σ) (g2,lw++deads gp++s.σ)∧Mut (fun b=> ∃ id,blkOf g s.σ id=some b) w w'∧
    (∀ id b,blkOf g2 (lw++deads gp++s.σ) id=some b→b<w.heap.size→ ∃ id',blkOf g s.σ id'=some b)):=by
 have hl:=h2.left
 have hr:=h2.right
 have hsm:∀ id,(fnd lw id).isSome=(fnd lp id).isSome:=fun id=>o8_ hkeys.symm
 have e3:∀ id,(fnd lp id).isSome=true→lkE s.σ id=lkE lp id:=fun id h=>by
  obtain⟨x,hx⟩:=Option.isSome_iff_exists.1 h
  rw [hx_ hl hx,gr_ hx]
 have eg:∀ id,(fnd gp id).isSome=true→ ∃ e n len cs,lkE s.σ id=some (.row e n len cs):=fun id h=>by
  obtain⟨x,hx⟩:=Option.isSome_iff_exists.1 h
  obtain⟨e,n,len,cs,q⟩:=yk_ hrows h
  exact⟨e,n,len,cs,by rw [hx_ hr hx,← gr_ hx];exact q⟩
 have e4:∀ id,(fnd lp id).isSome=false→lkE lp id=none:=fun id h=>nn_ (by simpa using h)
 have e5:∀ id,(fnd lp id).isSome=false→lkE lw id=none:=fun id h=>nn_ (by have:=(hsm id).trans h;simpa using this)
 have e1:∀ id,(fnd lp id).isSome=true→lkE (lw++deads gp++s.σ) id=lkE lw id:=fun id h=>by
  obtain⟨x,hx⟩:=Option.isSome_iff_exists.1 ((hsm id).trans h)
  rw [eq_,ff_,hx,gr_ hx];rfl
 have eD:∀ id,(fnd lp id).isSome=false→(fnd gp id).isSome=true→lkE (lw++deads gp++s.σ) id=some .dead:=fun id h h'=>by
  rw [eq_,ff_,show fnd lw id=none by have:=(hsm id).trans h;simpa using this,iv_,if_pos h'];rfl
 have e2:∀ id,(fnd lp id).isSome=false→(fnd gp id).isSome=false→lkE (lw++deads gp++s.σ) id=lkE s.σ id:=fun id h h'=>by
  rw [eq_,ff_,show fnd lw id=none by have:=(hsm id).trans h;simpa using this,iv_,if_neg (by rw [h'];simp)];rfl
 have b3':∀ id b,blkOf g lp id=some b→(fnd lp id).isSome=true∧blkOf g s.σ id=some b:=fun id b h=>ls_ hl h
 have b3:∀ id,(fnd lp id).isSome=true→blkOf g s.σ id=blkOf g lp id:=fun id h=>by unfold blkOf;rw [e3 id h]
 have hmlt:∀ b,Xl M0 g s.σ lp gp b→b<w.heap.size:=fun b hb=>by
  rcases hb with hb| ⟨id,_,_,hb⟩
  ·exact hs.mlt b (.inl hb)
  ·exact (hs.new id b hb).1
 have hhold:Hold (Xl M0 g s.σ lp gp) w g lp:=by
  refine⟨fun id e he=>?_,fun id id' b q1 q2=>hs.sep id id' b (b3' id b q1).2 (b3' id' b q2).2,fun id b q=>⟨(hs.new id b (b3' id b q).2).1,?_⟩⟩
  · have hi:(fnd lp id).isSome=true:=by
        cases hb:(fnd lp id).isSome
        ·rw [e4 id hb] at he;cases he
        ·rfl
    have h0:=hs.ent id e (by rw [e3 id hi];exact he)
    cases e with
    |   box cs=>
        obtain⟨vs,T,q1,q2,q3⟩:=h0
        exact⟨vs,T,q1,VgL.rep hs h2 ((hE.at id).1 cs he) q2,q3⟩
    |   row e1 n len cs=>
        obtain⟨vs,q1,q2⟩:=h0
        exact⟨vs,q1,VgL.rep hs h2 ((hE.at id).2 e1 n len cs he) q2⟩
    |dead=>trivial
  · rintro (hm| ⟨id',hi',_,hb'⟩)
    ·exact (hs.new id b (b3' id b q).2).2.2 hm
    ·   have:=hs.sep id id' b (b3' id b q).2 hb'
        subst this
        rw [(b3' id b q).1] at hi';cases hi'
 refine hmono _ _ _ _ _ (fun e w' ⟨v,g',q1,m,hgr,hh,hnw,hrep⟩=>⟨v,?_⟩) (hf _ g w vals hmlt hhold hargs ⟨hs.glw,fun b hb ⟨id,q⟩=>hs.glo.n b hb ((hs.new id b (b3' id b q).2).2.1 (hs.glo.w.lt hb))⟩)
 have hgp:∃ g2:Gh,(∀ id,(fnd lp id).isSome=true→g2.blk id=g'.blk id∧g2.row id=g'.row id)∧(∀ id,(fnd lp id).isSome=false→g2.blk id=g.blk id∧g2.row id=g.row id):=
  ⟨⟨fun id=>if (fnd lp id).isSome then g'.blk id else g.blk id,fun id=>if (fnd lp id).isSome then g'.row id else g.row id⟩,fun id h=>⟨by simp [h],by simp [h]⟩,fun id h=>⟨by simp [h],by simp [h]⟩⟩
 obtain⟨g2,k1,k2⟩:=hgp
 generalize hσ1:lw++deads gp++s.σ=σ1 at*
 have b1:∀ id,(fnd lp id).isSome=true→blkOf g2 σ1 id=blkOf g' lw id:=fun id h=>by unfold blkOf;rw [e1 id h,(k1 id h).1,(k1 id h).2]
 have b2:∀ id b,(fnd lp id).isSome=false→blkOf g2 σ1 id=some b→(fnd gp id).isSome=false∧blkOf g s.σ id=some b:=fun id b h hb=>by
  cases hg:(fnd gp id).isSome
  ·unfold blkOf at hb ⊢;rw [e2 id h hg,(k2 id h).1,(k2 id h).2] at hb;exact⟨rfl,hb⟩
  ·unfold blkOf at hb;rw [eD id h hg] at hb;cases hb
 have gr1 :Grow (g,s.σ) (g2,σ1):=by
  refine⟨fun id cs h=>?_,fun id e n len cs h=>?_,fun id h=>?_⟩
  · cases hb:(fnd lp id).isSome
    ·   cases hg:(fnd gp id).isSome
        ·exact⟨⟨cs,by simp only;rw [e2 id hb hg];exact h⟩,(k2 id hb).1⟩
        ·obtain⟨_,_,_,_,q⟩:=eg id hg
         simp only at h;rw [q] at h;cases h
    ·   obtain⟨⟨cs',q1⟩,q2⟩:=hgr.box id cs (by simp only at h ⊢;rw [← e3 id hb];exact h)
        exact⟨⟨cs',by simp only at q1 ⊢;rw [e1 id hb];exact q1⟩,(k1 id hb).1.trans q2⟩
  · cases hb:(fnd lp id).isSome
    ·   cases hg:(fnd gp id).isSome
        ·exact .inr ⟨e,n,len,cs,by simp only;rw [e2 id hb hg];exact h,Nat.le_refl _,fun _=>(k2 id hb).2⟩
        ·exact .inl (eD id hb hg)
    ·   rcases hgr.row id e n len cs (by simp only at h ⊢;rw [← e3 id hb];exact h) with q| ⟨e',n',len',cs',q1,q2,q3⟩
        ·exact .inl (by simp only at q ⊢;rw [e1 id hb];exact q)
        ·exact .inr ⟨e',n',len',cs',by simp only at q1 ⊢;rw [e1 id hb];exact q1,q2,fun q=>(k1 id hb).2.trans (q3 q)⟩
  · cases hb:(fnd lp id).isSome
    ·   cases hg:(fnd gp id).isSome
        ·simp only;rw [e2 id hb hg];exact h
        ·exact eD id hb hg
    ·   have q:=hgr.dead id (by simp only at h ⊢;rw [← e3 id hb];exact h)
        simp only at q ⊢;rw [e1 id hb];exact q
 have gr2:Grow (g',lw) (g2,σ1):=by
  refine⟨fun id cs h=>?_,fun id e n len cs h=>?_,fun id h=>?_⟩
  · cases hb:(fnd lp id).isSome
    ·simp only at h;rw [e5 id hb] at h;cases h
    ·exact⟨⟨cs,by simp only at h ⊢;rw [e1 id hb];exact h⟩,(k1 id hb).1⟩
  · cases hb:(fnd lp id).isSome
    ·simp only at h;rw [e5 id hb] at h;cases h
    ·exact .inr ⟨e,n,len,cs,by simp only at h ⊢;rw [e1 id hb];exact h,Nat.le_refl _,fun _=>(k1 id hb).2⟩
  · cases hb:(fnd lp id).isSome
    ·simp only at h;rw [e5 id hb] at h;cases h
    ·simp only at h ⊢;rw [e1 id hb];exact h
 have hM1:∀ b,b<w.heap.size→Mx M0 g2 σ1 b→Mx M0 g s.σ b:=fun b hlt h=>by
  rcases h with h| ⟨id,h⟩
  ·exact .inl h
  · cases hb:(fnd lp id).isSome
    ·exact .inr ⟨id,(b2 id b hb h).2⟩
    ·   rw [b1 id hb] at h
        obtain⟨id',h'⟩:=hnw id b h hlt
        exact .inr ⟨id',(b3' id' b h').2⟩
 have hS:∀ b,b<w.heap.size→(∃ id,blkOf g lp id=some b)→Mx M0 g s.σ b:=fun b _ ⟨id,h⟩=> .inr ⟨id,(b3' id b h).2⟩
 have hM2:∀ b,b<w'.heap.size→Mx M0 g2 σ1 b→Mx (Xl M0 g s.σ lp gp) g' lw b:=fun b hlt h=>by
  rcases h with h| ⟨id,h⟩
  ·exact .inl (.inl h)
  · cases hb:(fnd lp id).isSome
    ·   obtain⟨q1,q2⟩:=b2 id b hb h
        exact .inl (.inr ⟨id,hb,q1,q2⟩)
    ·rw [b1 id hb] at h;exact .inr ⟨id,h⟩
 have st:∀ d v,Rep (Mx M0 g s.σ) w (some (g,s.σ)) d v→Rep (Mx M0 g2 σ1) w' (some (g2,σ1)) d v:=fun d v h=>h.step (G:=some _) (G':=some _) gr1 m hS hM1
 have hown:∀ id b,blkOf g2 σ1 id=some b→b<w.heap.size→ ∃ id',blkOf g s.σ id'=some b:=(fun id b q hlt=>(by
  cases hb:(fnd lp id).isSome
  ·exact⟨id,(b2 id b hb q).2⟩
  · rw [b1 id hb] at q
    obtain⟨id',h'⟩:=hnw id b q hlt
    exact⟨id',(b3' id' b h').2⟩))
 refine⟨g2,q1,?_,gr1,m.mono (fun b _ ⟨id,h⟩=>⟨id,(b3' id b h).2⟩),hown⟩
 refine⟨hs.chg.trans' m (fun b hlt ⟨id,hb⟩=>(hs.new id b (b3' id b hb).2).2.1 hlt),hs.m0,hs.df.step m (g6_ _ _ _) (fun b _ ⟨id,h⟩=>⟨id,(b3' id b h).2⟩) hown,by rw [kt_];exact hs.sz,fun t=>?_,fun id e he=>?_,fun id id' b q1 q2=>?_,fun id b q=>?_,hs.anc.grow gr1 (fun id h1 h2=>?_),hs.glo⟩
 ·rw [ll_ _ _ _ _ (fun k hk=>by rw [hs.sz];rw [hk] at hd;simpa [dstOk] using hd)]
  have hrep':=hrep.step (M':=Mx M0 g2 σ1) (S:=fun _=>False) (G:=some _) (G':=some (g2,σ1)) gr2 (Mut.refl _ w') (fun _ _ e=>e.elim) hM2
  cases hdst:dst with
  |none=>simpa [updF] using st _ _ (hs.tm t)
  | some k=>
    simp only [updF,cv_,Option.some.injEq]
    by_cases e:k=t
    ·rw [if_pos e,if_pos e];exact hrep'
    ·rw [if_neg e,if_neg e];exact st _ _ (hs.tm t)
 ·cases  hb:(fnd lp id).isSome
  · cases hg:(fnd gp id).isSome
    ·   have he':lkE s.σ id=some e:=by rw [← e2 id hb hg];exact he
        refine (hs.ent id e he').step gr1 m hS hM1 (fun cs hc=>⟨(k2 id hb).1,?_⟩) (fun e1 n len cs hc=>⟨(k2 id hb).2,?_⟩)
        ·rintro⟨id',h'⟩
         have h1:blkOf g s.σ id=some (g.blk id):=by unfold blkOf;rw [he',hc]
         have:=hs.sep id id' _ h1 (b3' id' _ h').2
         subst this
         rw [(b3' id _ h').1] at hb;cases hb
        ·rintro b hob ⟨id',h'⟩
         have h1:blkOf g s.σ id=some b:=by unfold blkOf;rw [he',hc];exact hob
         have:=hs.sep id id' _ h1 (b3' id' _ h').2
         subst this
         rw [(b3' id _ h').1] at hb;cases hb
    ·   have:=eD id hb hg
        simp only at he
        rw [this] at he;cases he;trivial
  · have he':lkE lw id=some e:=by rw [← e1 id hb];exact he
    exact (hh.ent id e he').step (S:=fun _=>False) gr2 (Mut.refl _ w') (fun _ _ e=>e.elim) hM2 (fun cs hc=>⟨(k1 id hb).1,fun h=>h⟩) (fun e1 n len cs hc=>⟨(k1 id hb).2,fun _ _ h=>h⟩)
 ·cases hb:(fnd lp id).isSome <;> cases hb':(fnd lp id').isSome
  ·exact hs.sep id id' b (b2 id b hb q1).2 (b2 id' b hb' q2).2
  · rw [b1 id' hb'] at q2
    obtain⟨q3,q4⟩:=b2 id b hb q1
    exact absurd (.inr ⟨id,hb,q3,q4⟩) (hh.new id' b q2).2
  · rw [b1 id hb] at q1
    obtain⟨q3,q4⟩:=b2 id' b hb' q2
    exact absurd (.inr ⟨id',hb',q3,q4⟩) (hh.new id b q1).2
  ·rw [b1 id hb] at q1;rw [b1 id' hb'] at q2;exact hh.sep id id' b q1 q2
 ·cases hb:(fnd lp id).isSome
  · have:=hs.new id b (b2 id b hb q).2
    exact⟨Nat.lt_of_lt_of_le this.1 m.size,this.2⟩
  · rw [b1 id hb] at q
    have:=hh.new id b q
    refine⟨this.1,fun hlt=>?_,fun hm=>this.2 (.inl hm)⟩
    obtain⟨id',h'⟩:=hnw id b q (Nat.lt_of_lt_of_le hlt hs.chg.size)
    exact (hs.new id' b (b3' id' b h').2).2.1 hlt
 ·cases  hb:(fnd lp id).isSome
  · cases hg:(fnd gp id).isSome
    ·simp only at h2;rw [e2 id hb hg] at h2;exact absurd h1 h2
    ·   obtain⟨_,_,_,_,q⟩:=eg id hg
        rw [q] at h1;cases h1
  · rw [e3 id hb] at h1
    exact wq_ hnew hb h1
theorem Tri.lendG {o:Oper} {C:Gh→Array Value→World→(Ending→World→Prop)→Prop} {pf:List (Operand × D)} {d:D} {args:List D} {lp lw gp:Sg} (hf:LendC C args lp lw d) (hmono:∀ (g:Gh) (vals:Array Value) (w:World) (R R':Ending→World→Prop),(∀ e w',R e w'→R' e w')→C g vals w R→C g vals w R') (hkeys:keys lp=keys lw) (hnew:(lp.all fun p=>p.2.isSome || newId N p.1)=true) (hrows:(gp.all fun p=>isRowE p.2)=true) (hdis:∀ id,(fnd lp id).isSome=true→(fnd gp id).isSome=false) (hE:EsG lp gp lp)
  (hex:∀ (w0:World) (M0:Nat→Prop) (B0:Bd) (g:Gh) (s:DS) (a:Act) (w:World),StG w0 M0 B0 N g s a w→Ens s.σ (lp++gp)→Vals (Mx M0 g s.σ) w (some (g,s.σ)) a.eval pf→ ∃ vals:List Value,RepL (Mx (Xl M0 g s.σ lp gp) g lp) w (some (g,lp)) args vals∧
   ∀ (next:Act→World→Prop) (Q:Exit→Act→World→Prop),C g vals.toArray w (fun e w'=> ∃ v,e= .returned v∧next (a.put o.dst v) w')→o.wpIn (FW Rnd.r) 0 P a w next Q):Tri P N o pf (lp++gp) d (lw++deads gp):=by
 refine⟨?_⟩
 intro w0 M0 B0 s a w next Q h1 h2 hd ⟨g,hs⟩ hk
 obtain⟨vals,hargs,hop⟩:=hex w0 M0 B0 g s a w hs h2 (hs.vals h1)
 exact hop _ _ (hmono _ _ _ _ _ (fun e w' ⟨v,g2,q1,q2,_⟩=>⟨v,q1,hk _ _ ⟨g2,q2⟩⟩) (mn_ hf hmono hkeys hnew hrows hdis hE hs h2 hd hargs))
theorem Tri.lend {o:Oper} {k:FuncId} {pf:List (Operand × D)} {d:D} {args:List D} {lp lw gp:Sg} (hf:DLend P k args lp lw d) (hkeys:keys lp=keys lw) (hnew:(lp.all fun p=>p.2.isSome || newId N p.1)=true) (hrows:(gp.all fun p=>isRowE p.2)=true) (hdis:∀ id,(fnd lp id).isSome=true→(fnd gp id).isSome=false) (hE:EsG lp gp lp)
  (hex:∀ (w0:World) (M0:Nat→Prop) (B0:Bd) (g:Gh) (s:DS) (a:Act) (w:World),StG w0 M0 B0 N g s a w→Ens s.σ (lp++gp)→Vals (Mx M0 g s.σ) w (some (g,s.σ)) a.eval pf→ ∃ vals:List Value,(execOp a.eval o).run P w= .ok (.enter k vals.toArray) w∧RepL (Mx (Xl M0 g s.σ lp gp) g lp) w (some (g,lp)) args vals):Tri P N o pf (lp++gp) d (lw++deads gp):=
 Tri.lendG hf.lendC (fun g vals w R R' h hc=>hc.mono h) hkeys hnew hrows hdis hE fun w0 M0 B0 g s a w hs h2 hv=>by
  obtain⟨vals,h3,h4⟩:=hex w0 M0 B0 g s a w hs h2 hv
  refine⟨vals,h4,fun next Q hc=>j7_ h3 (hc.mono fun e w' ⟨v,q1,q2⟩=>?_)⟩
  subst q1
  exact q2
theorem rw_ {id:Nat} {x:Ent}:∀ {u:Sg},(u.all fun p=>p.2.isNone || !newId N p.1)=true→lkE u id=some x→newId N id=false
 | [],_,h=>by simp [lkE] at h
 |(k,y)::r,ha,h=>by
  simp only [List.all_cons,Bool.and_eq_true] at ha
  rw [aa_] at h
  by_cases hb:k=id
  ·rw [if_pos hb] at h
   subst hb;subst h
   simpa using ha.1
  ·rw [if_neg hb] at h;exact rw_ ha.2 h
theorem r8_ {dst:Option Tmp} {ty:TypeId} {pos:String} {af:Array Edge} {gd:Option (Nat × Bool)} {k:FuncId} {x:Operand} {ar:List Operand} {ts:Array TypeId} {ρ:Operand→Value} {fs us:List Value} (he:Enters P k) (hx:ρ x= .func (.func k) fs.toArray us.toArray) (w:World):
  (execOp ρ ⟨dst,.call { callee:= .value x,args:=ar.toArray,argTypes:=ts },ty,pos,af,gd⟩).run P w= .ok (.enter k (fs++ar.map ρ++us).toArray) w:=by
 simp only [execOp,resolve,hx,Deferred.ofValue,Sem.run_bind,Sem.run_pure,Result.andThen_ok,invoke,List.map_toArray]
 have:=he ((fs++ar.map ρ++us).toArray) w
 simpa using this
theorem T.lend {dst:Option Tmp} {ty:TypeId} {pos:String} {af:Array Edge} {gd:Option (Nat × Bool)} {k:FuncId} {ar:List Operand} {ts:Array TypeId} {ds ds':List D} {d:D} {lp lw:Sg} (gp:Sg) (he:Enters P k) (hf:DLend P k ds lp lw d) (hl:ar.length=ds'.length) (hp:VgL lp gp ds' ds) (hkeys:keys lp=keys lw) (hnew:(lp.all fun p=>p.2.isSome || newId N p.1)=true) (hrows:(gp.all fun p=>isRowE p.2)=true) (hdis:∀ id,(fnd lp id).isSome=true→(fnd gp id).isSome=false) (hE:EsG lp gp lp):
  Tri P N ⟨dst,.call { callee:= .value (.func k),args:=ar.toArray,argTypes:=ts },ty,pos,af,gd⟩ (ar.zip ds') (lp++gp) d (lw++deads gp):=Tri.lend hf hkeys hnew hrows hdis hE fun w0 M0 B0 g s a w hs h2 hv=>by
 refine⟨ar.map a.eval,mw_ he a.eval rfl w,?_⟩
 have h1:=cp_ hv
 rw [show (ar.zip ds').map (·.2)=ds' from by rw [List.map_snd_zip (by omega)],show ((ar.zip ds').map fun p=>a.eval p.1)=ar.map a.eval from by rw [show (fun p:Operand × D=>a.eval p.1)=a.eval ∘ Prod.fst from rfl,← List.map_map,List.map_fst_zip (by omega)]] at h1
 exact VgL.rep hs h2 hp h1
theorem T.lendC {dst:Option Tmp} {ty:TypeId} {pos:String} {af:Array Edge} {gd:Option (Nat × Bool)} {k:FuncId} {x:Operand} {ar:List Operand} {ts:Array TypeId} {first cap ds ds':List D} {d:D} {lp lw:Sg} (gp:Sg) (he:Enters P k) (hf:DLend P k ds lp lw d) (hl:ar.length=ds'.length) (hp:VgL lp gp (first++ds'++cap) ds) (hkeys:keys lp=keys lw) (hnew:(lp.all fun p=>p.2.isSome || newId N p.1)=true) (hrows:(gp.all fun p=>isRowE p.2)=true) (hdis:∀ id,(fnd lp id).isSome=true→(fnd gp id).isSome=false) (hE:EsG lp gp lp):
  Tri P N ⟨dst,.call { callee:= .value x,args:=ar.toArray,argTypes:=ts },ty,pos,af,gd⟩ ((x,.clo (.func k) first cap)::ar.zip ds') (lp++gp) d (lw++deads gp):=Tri.lend hf hkeys hnew hrows hdis hE fun w0 M0 B0 g s a w hs h2 hv=>by
 have h0:=hv.1
 simp only [Rep] at h0
 obtain⟨fs,us,hx,hf1,hc1⟩:=h0
 refine⟨fs++ar.map a.eval++us,r8_ he hx w,?_⟩
 have h1:=cp_ hv.2
 rw [show (ar.zip ds').map (·.2)=ds' from by rw [List.map_snd_zip (by omega)],show ((ar.zip ds').map fun p=>a.eval p.1)=ar.map a.eval from by rw [show (fun p:Operand × D=>a.eval p.1)=a.eval ∘ Prod.fst from rfl,← List.map_map,List.map_fst_zip (by omega)]] at h1
 exact VgL.rep hs h2 hp (RepL.append (RepL.append hf1 h1) hc1)
end
def GrowK (we:Sg):Sg→Prop
 | []=>True
 |(id,e)::r=>(match e with
     |none=>True
     |some .dead=>lkE we id=some .dead
     |some (.box _)=> ∃ cs',lkE we id=some (.box cs')
     |some (.row _ _ len _)=>lkE we id=some .dead∨ ∃ e' n' len' cs',lkE we id=some (.row e' n' len' cs')∧len≤len')∧GrowK we r
theorem GrowK.deadAt {we:Sg}:∀ {τ:Sg},GrowK we τ→ ∀ id,lkE τ id=some .dead→lkE we id=some .dead
 | [],_,id,h=>by simp [lkE] at h
 |(k,x)::r,h,id,hx=>by
  rw [aa_] at hx
  by_cases e:k=id
  ·rw [if_pos e] at hx
   have h1:=h.1
   subst e;subst hx;exact h1
  ·rw [if_neg e] at hx;exact GrowK.deadAt h.2 id hx
theorem GrowK.at:∀ {τ:Sg},GrowK we τ→ ∀ id,(∀ cs,lkE τ id=some (.box cs)→ ∃ cs',lkE we id=some (.box cs'))∧(∀ e n len cs,lkE τ id=some (.row e n len cs)→lkE we id=some .dead∨ ∃ e' n' len' cs',lkE we id=some (.row e' n' len' cs')∧len≤len')
 | [],_,id=>⟨fun cs h=>by simp [lkE] at h,fun e n L cs h=>by simp [lkE] at h⟩
 |(k,x)::r,h,id=>by
  rw [aa_]
  by_cases e:k=id
  ·rw [if_pos e]
   have h1:=h.1
   subst e
   refine⟨fun cs hc=>?_,fun e n L cs hc=>?_⟩
   ·subst hc;exact h1
   ·subst hc;exact h1
  ·rw [if_neg e];exact GrowK.at h.2 id
def ResL (P:Program) (fn:Func) (N:Nat) (s:DS) (we:Sg) (d:D):Prop:=
 ∃ f',EsOk s.σ we we∧FsOk s.σ we s.f f'∧ ∀ (w0:World) (M0:Nat→Prop) (B0:Bd) (g:Gh) (a:Act) (w:World),StG w0 M0 B0 N g ⟨f',we⟩ a w→ ∃ v,(results fn a.tmps).run P w= .ok v w∧Rep (Mx M0 g we) w (some (g,we)) d v
def lendBd (g:Gh) (pe:Sg):Bd:=⟨fun b=> ∃ id,blkOf g pe id=some b,fun id b=>b=g.blk id,fun id len v=> ∃ e n len0 cs,lkE pe id=some (.row e n len0 cs)∧len0≤len∧(len=len0→v=g.row id),fun id len v len' v' ⟨e,n,len0,cs,q1,q2,q3⟩ hlt=>⟨e,n,len0,cs,q1,by omega,fun q=>by omega⟩⟩
theorem p9_ {w0:World} {M0:Nat→Prop} {B0:Bd} {N:Nat} {g':Gh} {s':DS} {f':Fr} {a':Act} {w':World} (r1:EsOk s'.σ we we) (r2:FsOk s'.σ we s'.f f') (q3:StG w0 M0 B0 N g' s' a' w'):StG w0 M0 B0 N g' ⟨f',we⟩ a' w':=by
 have hM':∀ id b,blkOf g' we id=some b→blkOf g' s'.σ id=some b:=fun id b hb=>by
  unfold blkOf at hb
  obtain⟨u1,u2⟩:=r1.at id
  cases he:lkE we id with
  |none=>rw [he] at hb;cases hb
  |some e=>
   rw [he] at hb
   cases e with
   |box cs'=>obtain⟨cs,q,_⟩:=u1 cs' he;unfold blkOf;rw [q];exact hb
   |row e n L cs'=>obtain⟨cs,q,_⟩:=u2 e n L cs' he;unfold blkOf;rw [q];exact hb
   |dead=>cases hb
 refine⟨q3.chg,q3.m0,q3.df.step (S:=fun _=>False) (Mut.refl _ w') rfl (fun _ _ e=>e.elim) (fun id b q _=>⟨id,hM' _ _ q⟩),q3.sz,fun t=>r2.at t _ _ _ _ _ _ _ _ q3 hM' _ (q3.tm t),fun id e he=>?_,fun id id' b u1 u2=>q3.sep id id' b (hM' _ _ u1) (hM' _ _ u2),fun id b q=>q3.new id b (hM' _ _ q),fun id=>⟨fun cs q=>(by obtain⟨c,u3,_⟩:=(r1.at id).1 cs q;exact (q3.anc id).1 c u3),fun e n len cs q=>(by obtain⟨c,u3,_⟩:=(r1.at id).2 e n len cs q;exact (q3.anc id).2 _ _ _ _ u3)⟩,q3.glo⟩
 obtain⟨u1,u2⟩:=r1.at id
 cases e with
 |box cs'=>
  obtain⟨cs,q,hv,hko⟩:=u1 cs' he
  obtain⟨vs,T,o1,o2,o4⟩:=q3.ent id _ q
  exact⟨vs,T,o1,VsL.rep q3 hM' hv o2,o4.of hko⟩
 |row e n L cs'=>
  obtain⟨cs,q,hv⟩:=u2 e n L cs' he
  obtain⟨vs,o1,o2⟩:=q3.ent id _ q
  exact⟨vs,o1,VsL.rep q3 hM' hv o2⟩
 |dead=>trivial
theorem mz_ {w w':World} {M0:Nat→Prop} {N:Nat} {g g':Gh} {f':Fr} {a':Act} {d:D} {v:Value} (old:∀ id x,lkE pe id=some x→newId N id=false) (hgk:GrowK we pe) (hfin:StG w M0 (lendBd g pe) N g' ⟨f',we⟩ a' w') (v2:Rep (Mx M0 g' we) w' (some (g',we)) d v):LendPost M0 w g pe we d (.returned v) w':=by
 have hgr:Grow (g,pe) (g',we):=by
  refine⟨fun id cs hc=>?_,fun id e n len cs hc=>?_,fun id hc=>hgk.deadAt id hc⟩
  ·obtain⟨cs',u1⟩:=(hgk.at id).1 cs hc
   refine⟨⟨cs',u1⟩,?_⟩
   rcases (hfin.anc id).1 cs' u1 with u2|u2
   ·rw [old id _ hc] at u2;cases u2
   ·exact u2
  ·rcases (hgk.at id).2 e n len cs hc with u0| ⟨e',n',len',cs',u1,u2⟩
   ·exact .inl u0
   refine .inr ⟨e',n',len',cs',u1,u2,fun ul=>?_⟩
   rcases (hfin.anc id).2 e' n' len' cs' u1 with u3| ⟨e0,n0,len0,cs0,u3,u4,u5⟩
   ·rw [old id _ hc] at u3;cases u3
   ·    have hc:lkE pe id=some (.row e n len cs):=hc
        rw [hc] at u3
        cases u3
        exact u5 ul
 exact⟨v,g',rfl,hfin.chg,hgr,⟨hfin.ent,hfin.sep,fun id b q=>⟨(hfin.new id b q).1,(hfin.new id b q).2.2⟩⟩,fun id b q hlt=>(hfin.new id b q).2.1 hlt,v2⟩
theorem DLend.enter {k:FuncId} {fn:Func} {c:Code} {args:List D} {d:D} (hf:P.funcs[k]?=some fn) (hb:fn.body=some c) (hn:fn.ntmps=N) (hlt:N<512) (hN:args.length≤N) (hold:(pe.all fun p=>p.2.isNone || !newId N p.1)=true) (hgk:GrowK we pe)
  (h:DW P N c ⟨argF 0 args,pe⟩ (fun e s=>(e= .normal∨e= .ret)∧ResL P fn N s we d)):DLend P k args pe we d:=by
 subst hn
 refine⟨?_⟩
 intro M0 g w vals hM hh hv hgl
 have hl:=hv.length
 refine (callsFW (r:=none) (n:=0)).1 (callsIn_of_wp_marks hf hb trivial ?_)
 have hst:StG w M0 (lendBd g pe) fn.ntmps g ⟨argF 0 args,pe⟩ { tmps:=vals.toArray++Array.replicate (fn.ntmps - vals.toArray.size) undef,defers:=[] } w:=by
  refine⟨Mut.refl _ w,hM,Dfs.nil rfl,by rw [Nat.mod_eq_of_lt hlt];simp;omega,fun t=>?_,hh.ent,hh.sep,fun id b q=>⟨(hh.new id b q).1,fun _=>⟨id,q⟩,(hh.new id b q).2⟩,fun id=>⟨fun cs q=> .inr rfl,fun e n len cs q=> .inr ⟨e,n,len,cs,q,Nat.le_refl _,fun _=>rfl⟩⟩,hgl⟩
  rw [nw_]
  simp only [Nat.not_lt_zero,if_false,Nat.sub_zero]
  cases hd:args[t]? with
  |none=>simp only [Option.getD_none,Rep]
  |some  d=>
   obtain⟨u,hu,hr⟩:=hv.get t hd
   have ht:=(List.getElem?_eq_some_iff.1 hu).1
   have  :(vals.toArray++Array.replicate (fn.ntmps - vals.toArray.size) undef).getD t undef=u:=by
        rw [Array.getD_eq_getD_getElem?,Array.getElem?_append_left (by simpa using ht)]
        simp [hu]
   rw [this]
   exact hr
 have old:∀ id x,lkE pe id=some x→newId fn.ntmps id=false:=fun id x hx=>rw_ hold hx
 refine wpIn_mono (h.go w M0 (lendBd g pe) _ w ⟨_,hst⟩) fun e a1 w1 ⟨s',⟨q1,⟨f',r1,r2,r3⟩⟩,⟨g',q3'⟩⟩=>?_
 obtain⟨Ds,d1,d2,d3⟩:=q3'.df
 have:=StG.leave (P:=P) (fn:=fn) (R:=LendPost M0 w g pe we d) Ds q3' d1 d2 d3 (fun a' w' q3 ht _ _=>by
  have hfin:=p9_ r1 r2 q3
  obtain⟨v,v1,v2⟩:=r3 _ _ _ _ _ _ hfin
  exact⟨v,v1,mz_ old hgk hfin v2⟩)
 rcases q1 with rfl|rfl
 ·exact this
 ·exact this
theorem ResL.unit {fn:Func} {s:DS} {f':Fr} (hr:fn.results= #[]) (h1:EsOk s.σ we we) (h2:FsOk s.σ we s.f f'):ResL P fn N s we (.tup []):=
 ⟨f',h1,h2,fun w0 M0 B0 g a w hs=>⟨.tuple #[],by simp [results,hr],by simp only [Rep];exact⟨[],rfl,by simp only [RepL]⟩⟩⟩
theorem ResL.one {fn:Func} {s:DS} {f':Fr} {t:Tmp} {d:D} (hr:fn.results= #[.tmp t]) (h1:EsOk s.σ we we) (h2:FsOk s.σ we s.f f') (hd:lkF f' t=d):ResL P fn N s we d:=
 ⟨f',h1,h2,fun w0 M0 B0 g a w hs=>⟨a.tmps.getD t undef,by simp [results,hr],by have:=hs.tm t;rw [hd] at this;exact this⟩⟩
end
end Go.Dm
