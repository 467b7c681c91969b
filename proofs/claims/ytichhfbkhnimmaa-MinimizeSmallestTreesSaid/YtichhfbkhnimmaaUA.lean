/- A machine over data: what a value in memory stands for. No condition. -/
import Derived.Test.YtichhfbkhnimmaaUAt
set_option linter.unusedSimpArgs false
set_option linter.unusedVariables false
set_option linter.unusedSectionVars false
set_option maxHeartbeats 400000
namespace Go.Dm
open Go Go.RowKit Go.PP
structure LR where
 st:LoopState
 pend:Option Code
 ps:Array Tmp
 asg:Code
 body:Code
inductive D where
 |any
 |flat (v:Value)
 |agg (cs:List D)
 |tup (ds:List D)
 |sl (full:Bool) (n len:Nat) (cs:List D)
 |ptr (cs:List D) (off:Nat)
 |own (id len:Nat)
 |ref (id off:Nat)
 |elp (id len off:Nat)
 |clo (fn:Fn) (first cap:List D)
 |keys (ks:List Value)
 |bsl (id off len cap:Nat)
 |mp (id:Nat)
 |ifn
 |lrec (r:LR)
 |yl (id:Nat)
 |typ (t:TypeId)
inductive Ent where
 |box (cs:List D)
 |row (e:TypeId) (n len:Nat) (cs:List D)
 |dead
abbrev Sg:=List (Nat × Option Ent)
abbrev Fr:=List (Nat × D)
def lkF:Fr→Nat→D
 | [],_=> .any
 |(k,d)::r,t=>bif k == t then d else lkF r t
def lkE:Sg→Nat→Option Ent
 | [],_=>none
 |(k,d)::r,t=>bif k == t then d else lkE r t
structure Gh where
 blk:Nat→Nat
 row:Nat→Value
def blkOf (g:Gh) (σ:Sg) (id:Nat):Option Nat:=
 match lkE σ id with
 |some (.box _)=>some (g.blk id)
 |some (.row ..)=>(g.row id).ownBlock
 |some .dead=>none
 |none=>none
abbrev Cx:=Option (Gh × Sg)
mutual
def Rep (M:Nat→Prop) (w:World) (G:Cx):D→Value→Prop
 | .any,_=>True
 | .flat v,u=>u=v
 | .agg cs,u=> ∃ vs:List Value,u= .agg vs.toArray∧RepL M w G cs vs
 | .tup ds,u=> ∃ vs:List Value,u= .tuple vs.toArray∧RepL M w G ds vs
 | .sl full n len cs,u=> ∃ a cap,u= .slice a len cap∧len≤cap∧(full=true→cap=len)∧cs.length=len*n∧len≤9223372036854775807∧
     (len*n=0∨ ∃ b off,a=some ⟨b,off,none⟩∧ ¬ M b∧RepC M w b off cs)
 | .ptr cs off,u=> ∃ b o,u= .pointer (some ⟨b,o+off,none⟩)∧cs≠ []∧ ¬ M b∧RepC M w b o cs
 | .own id L,u=> ∃ g σ,G=some (g,σ)∧(lkE σ id=some .dead∨ ∃ e n len cs,lkE σ id=some (.row e n len cs)∧L≤len∧(L=len→u=g.row id))∧ ∃ a c,u= .slice a L c
 | .ref id off,u=> ∃ g σ cs,G=some (g,σ)∧lkE σ id=some (.box cs)∧u= .pointer (some ⟨g.blk id,off,none⟩)
 | .elp id L off,u=> ∃ g σ,G=some (g,σ)∧(lkE σ id=some .dead∨ ∃ e n len cs,lkE σ id=some (.row e n len cs)∧L≤len∧(L=len→ ∃ b o l c,g.row id= .slice (some ⟨b,o,none⟩) l c∧u= .pointer (some ⟨b,o+off,none⟩)))∧ ∃ a,u= .pointer (some a)
 | .clo fn first cap,u=> ∃ vs us:List Value,u= .func fn vs.toArray us.toArray∧RepL M w G first vs∧RepL M w G cap us
 | .keys _,_=>True
 | .bsl id off len cap,u=> ∃ g σ cs,G=some (g,σ)∧lkE σ id=some (.box cs)∧u= .slice (some ⟨g.blk id,off,none⟩) len cap
 | .mp id,u=> ∃ g σ cs,G=some (g,σ)∧lkE σ id=some (.box cs)∧u= .map (some (g.blk id))
 | .ifn,u=> ∃ t v,u= .iface t v
 | .lrec _,_=>True
 | .typ _,_=>True
 | .yl id,u=> ∃ g σ cs,G=some (g,σ)∧lkE σ id=some (.box cs)∧u= .func (.yield (g.blk id)) #[] #[]
def RepL (M:Nat→Prop) (w:World) (G:Cx):List D→List Value→Prop
 | [],vs=>vs=[]
 |d::ds,vs=> ∃ u us,vs=u::us∧Rep M w G d u∧RepL M w G ds us
def RepC (M:Nat→Prop) (w:World) (b:Nat) (off:Nat):List D→Prop
 | []=>True
 |d::ds=>(∃ u,w.cell? ⟨b,off,none⟩=some u∧Rep M w none d u)∧RepC M w b (off+1) ds
end
structure Grow (x y:Gh × Sg):Prop where
 box:∀ id cs,lkE x.2 id=some (.box cs)→(∃ cs',lkE y.2 id=some (.box cs'))∧y.1.blk id=x.1.blk id
 row:∀ id e n len cs,lkE x.2 id=some (.row e n len cs)→lkE y.2 id=some .dead∨ ∃ e' n' len' cs',lkE y.2 id=some (.row e' n' len' cs')∧len≤len'∧(len'=len→y.1.row id=x.1.row id)
 dead:∀ id,lkE x.2 id=some .dead→lkE y.2 id=some .dead
theorem hc_ {σ:Sg} {id L len e n:Nat} {cs:List D} {R:Prop} (he:lkE σ id=some (.row e n len cs)) (h:lkE σ id=some .dead∨ ∃ e n len cs,lkE σ id=some (.row e n len cs)∧L≤len∧(L=len→R)):L≤len∧(L=len→R):=by
 rcases h with h| ⟨e1,n1,len1,cs1,h1,h2,h3⟩
 ·rw [he] at h;cases h
 ·rw [he] at h1;cases h1;exact⟨h2,h3⟩
theorem Grow.refl (x:Gh × Sg):Grow x x:=⟨fun id cs h=>⟨⟨cs,h⟩,rfl⟩,fun id e n len cs h=> .inr ⟨e,n,len,cs,h,Nat.le_refl _,fun _=>rfl⟩,fun id h=>h⟩
def GrowO:Cx→Cx→Prop
 |none,_=>True
 |some x,some y=>Grow x y
 |some _,none=>False
theorem RepC.lt {M:Nat→Prop} {w:World} {b off:Nat} {cs:List D} (hl:cs≠ []) (h:RepC M w b off cs):b<w.heap.size:=by
 cases cs with
 |nil=>exact absurd rfl hl
 |cons d ds=>
  simp only [RepC] at h
  obtain⟨⟨u,hu,_⟩,_⟩:=h
  exact World.block_lt_of_cell? _ _ hu
mutual
theorem Rep.step {M M' S:Nat→Prop} {w w':World} {G G':Cx} (hG:GrowO G G') (m:Mut S w w') (hS:∀ b,b<w.heap.size→S b→M b) (hM:∀ b,b<w.heap.size→M' b→M b):∀ (d:D) (v:Value),Rep M w G d v→Rep M' w' G' d v
 | .any,_,_=>by simp only [Rep]
 | .flat v,u,h=>by simpa only [Rep] using h
 | .agg cs,u,h=>by
   simp only [Rep] at h ⊢
   obtain⟨vs,h1,h2⟩:=h
   exact⟨vs,h1,RepL.step hG m hS hM cs vs h2⟩
 | .tup cs,u,h=>by
   simp only [Rep] at h ⊢
   obtain⟨vs,h1,h2⟩:=h
   exact⟨vs,h1,RepL.step hG m hS hM cs vs h2⟩
 | .sl full n len cs,u,h=>by
   simp only [Rep] at h ⊢
   obtain⟨a,cap,h1,h2,h3,h4,h5,h6⟩:=h
   refine⟨a,cap,h1,h2,h3,h4,h5,?_⟩
   rcases h6 with h6| ⟨b,off,h7,h8,h9⟩
   ·exact .inl h6
   ·by_cases hl:cs=[]
    ·exact .inl (by rw [← h4,hl];rfl)
    ·exact .inr ⟨b,off,h7,fun e=>h8 (hM b (RepC.lt hl h9) e),RepC.step m hS hM b off h8 cs h9⟩
 | .ptr cs off,u,h=>by
   simp only [Rep] at h ⊢
   obtain⟨b,o,h1,h2,h3,h4⟩:=h
   exact⟨b,o,h1,h2,fun e=>h3 (hM b (RepC.lt h2 h4) e),RepC.step m hS hM b o h3 cs h4⟩
 | .own  id L,u,h=>by
   simp only [Rep] at h ⊢
   obtain⟨g,σ,rfl,h1,h4⟩:=h
   cases G' with
   |none=>exact hG.elim
   |some y=>
    refine⟨y.1,y.2,rfl,?_,h4⟩
    rcases h1 with h1| ⟨e,n,len,cs,h1,h2,h3⟩
    ·exact .inl (hG.dead id h1)
    ·   rcases hG.row id e n len cs h1 with q| ⟨e',n',len',cs',q1,q2,q3⟩
        ·exact .inl q
        ·exact .inr ⟨e',n',len',cs',q1,by omega,fun e=>(by rw [q3 (by omega)];exact h3 (by omega))⟩
 | .ref id off,u,h=>by
   simp only [Rep] at h ⊢
   obtain⟨g,σ,cs,rfl,h1,h2⟩:=h
   cases G' with
   |none=>exact hG.elim
   |some y=>
    obtain⟨⟨cs',q1⟩,q2⟩:=hG.box id cs h1
    exact⟨y.1,y.2,cs',rfl,q1,by rw [q2];exact h2⟩
 | .elp  id L off,u,h=>by
   simp only [Rep] at h ⊢
   obtain⟨g,σ,rfl,h1,h4⟩:=h
   cases G' with
   |none=>exact hG.elim
   |some y=>
    refine⟨y.1,y.2,rfl,?_,h4⟩
    rcases h1 with h1| ⟨e,n,len,cs,h1,h2,h3⟩
    ·exact .inl (hG.dead id h1)
    ·   rcases hG.row id e n len cs h1 with q| ⟨e',n',len',cs',q1,q2,q3⟩
        ·exact .inl q
        ·exact .inr ⟨e',n',len',cs',q1,by omega,fun e=>(by rw [q3 (by omega)];exact h3 (by omega))⟩
 | .clo fn first cap,u,h=>by
   simp only [Rep] at h ⊢
   obtain⟨vs,us,h1,h2,h3⟩:=h
   exact⟨vs,us,h1,RepL.step hG m hS hM first vs h2,RepL.step hG m hS hM cap us h3⟩
 | .keys _,u,h=>by simp only [Rep]
 | .lrec _,u,h=>by simp only [Rep]
 | .typ _,u,h=>by simp only [Rep]
 | .yl id,u,h=>by
   simp only [Rep] at h ⊢
   obtain⟨g,σ,cs,rfl,h1,h2⟩:=h
   cases G' with
   |none=>exact hG.elim
   |some y=>
    obtain⟨⟨cs',q1⟩,q2⟩:=hG.box id cs h1
    exact⟨y.1,y.2,cs',rfl,q1,by rw [q2];exact h2⟩
 | .bsl id off len cap,u,h=>by
   simp only [Rep] at h ⊢
   obtain⟨g,σ,cs,rfl,h1,h2⟩:=h
   cases G' with
   |none=>exact hG.elim
   |some y=>
    obtain⟨⟨cs',q1⟩,q2⟩:=hG.box id cs h1
    exact⟨y.1,y.2,cs',rfl,q1,by rw [q2];exact h2⟩
 | .ifn,u,h=>by simpa only [Rep] using h
 | .mp id,u,h=>by
   simp only [Rep] at h ⊢
   obtain⟨g,σ,cs,rfl,h1,h2⟩:=h
   cases G' with
   |none=>exact hG.elim
   |some y=>
    obtain⟨⟨cs',q1⟩,q2⟩:=hG.box id cs h1
    exact⟨y.1,y.2,cs',rfl,q1,by rw [q2];exact h2⟩
theorem RepL.step {M M' S:Nat→Prop} {w w':World} {G G':Cx} (hG:GrowO G G') (m:Mut S w w') (hS:∀ b,b<w.heap.size→S b→M b) (hM:∀ b,b<w.heap.size→M' b→M b):∀ (ds:List D) (vs:List Value),RepL M w G ds vs→RepL M' w' G' ds vs
 | [],vs,h=>by simpa only [RepL] using h
 |d::ds,vs,h=>by
  simp only [RepL] at h ⊢
  obtain⟨u,us,h1,h2,h3⟩:=h
  exact⟨u,us,h1,Rep.step hG m hS hM d u h2,RepL.step hG m hS hM ds us h3⟩
theorem RepC.step {M M' S:Nat→Prop} {w w':World} (m:Mut S w w') (hS:∀ b,b<w.heap.size→S b→M b) (hM:∀ b,b<w.heap.size→M' b→M b) (b off:Nat) (hb:¬ M b):∀ (ds:List D),RepC M w b off ds→RepC M' w' b off ds
 | [],h=>by simp only [RepC]
 |d::ds,h=>by
  simp only [RepC] at h ⊢
  obtain⟨⟨u,h1,h2⟩,h3⟩:=h
  exact⟨⟨u,m.cell h1 (fun e=>hb (hS b (World.block_lt_of_cell? w _ h1) e)),Rep.step (G:=none) (G':=none) trivial m hS hM d u h2⟩,RepC.step m hS hM b (off+1) hb ds h3⟩
end
theorem Rep.fix {M:Nat→Prop} {w w':World} {G:Cx} {d:D} {v:Value} (h:Rep M w G d v) (m:Fix w w'):Rep M w' G d v:=
 h.step (by cases G with|none=>trivial|some x=>exact Grow.refl x) m (by simp) (fun _ _ h=>h)
theorem RepL.fix {M:Nat→Prop} {w w':World} {G:Cx} {d:List D} {v:List Value} (h:RepL M w G d v) (m:Fix w w'):RepL M w' G d v:=
 RepL.step (by cases G with|none=>trivial|some x=>exact Grow.refl x) m (by simp) (fun _ _ h=>h) d v h
theorem Rep.mono {M M':Nat→Prop} {w:World} {G:Cx} {d:D} {v:Value} (h:Rep M w G d v) (hM:∀ b,b<w.heap.size→M' b→M b):Rep M' w G d v:=
 h.step (S:=fun _=>False) (by cases G with|none=>trivial|some x=>exact Grow.refl x) (Mut.refl _ w) (fun _ _ h=>h.elim) hM
theorem RepL.mono {M M':Nat→Prop} {w:World} {G:Cx} {d:List D} {v:List Value} (h:RepL M w G d v) (hM:∀ b,b<w.heap.size→M' b→M b):RepL M' w G d v:=
 RepL.step (S:=fun _=>False) (by cases G with|none=>trivial|some x=>exact Grow.refl x) (Mut.refl _ w) (fun _ _ h=>h.elim) hM d v h
theorem Rep.up {M:Nat→Prop} {w:World} {G:Cx} {d:D} {v:Value} (h:Rep M w none d v):Rep M w G d v:=
 h.step (G:=none) (S:=fun _=>False) trivial (Mut.refl _ w) (fun _ _ h=>h.elim) (fun _ _ h=>h)
theorem RepL.up {M:Nat→Prop} {w:World} {G:Cx} {d:List D} {v:List Value} (h:RepL M w none d v):RepL M w G d v:=
 RepL.step (G:=none) (S:=fun _=>False) trivial (Mut.refl _ w) (fun _ _ h=>h.elim) (fun _ _ h=>h) d v h
theorem RepL.length {M:Nat→Prop} {w:World} {G:Cx}:∀ {ds:List D} {vs:List Value},RepL M w G ds vs→ds.length=vs.length
 | [],vs,h=>by simp only [RepL] at h;subst h;rfl
 |d::ds,vs,h=>by
  simp only [RepL] at h
  obtain⟨u,us,rfl,_,h3⟩:=h
  simp [RepL.length h3]
theorem RepL.get {M:Nat→Prop} {w:World} {G:Cx}:∀ {ds:List D} {vs:List Value} (i:Nat) {d:D},RepL M w G ds vs→ds[i]?=some d→ ∃ u,vs[i]?=some u∧Rep M w G d u
 | [],vs,i,d,h,hd=>by simp at hd
 |d0::ds,vs,i,d,h,hd=>by
  simp only [RepL] at h
  obtain⟨u,us,rfl,h2,h3⟩:=h
  cases i with
  |zero=>simp at hd;subst hd;exact⟨u,by simp,h2⟩
  |succ i=>simpa using RepL.get i h3 (by simpa using hd)
theorem RepL.of {M:Nat→Prop} {w:World} {G:Cx}:∀ {ds:List D} {vs:List Value},ds.length=vs.length→(∀ (i:Nat) d u,ds[i]?=some d→vs[i]?=some u→Rep M w G d u)→RepL M w G ds vs
 | [],vs,hl,h=>by
   simp only [RepL];cases vs with
   |nil=>rfl
   |cons v vs=>simp at hl
 | d::ds,vs,hl,h=>by
   cases vs with
   |nil=>simp at hl
   |cons v vs=>
    simp only [RepL]
    exact⟨v,vs,rfl,h 0 d v (by simp) (by simp),RepL.of (by simpa using hl) (fun i d u h1 h2=>h (i+1) d u (by simpa using h1) (by simpa using h2))⟩
theorem RepC.get {M:Nat→Prop} {w:World} {b:Nat}:∀ {ds:List D} {off:Nat} (i:Nat) {d:D},RepC M w b off ds→ds[i]?=some d→ ∃ u,w.cell? ⟨b,off+i,none⟩=some u∧Rep M w none d u
 | [],off,i,d,h,hd=>by simp at hd
 |d0::ds,off,i,d,h,hd=>by
  simp only [RepC] at h
  obtain⟨⟨u,h1,h2⟩,h3⟩:=h
  cases i with
  |zero=>simp at hd;subst hd;exact⟨u,h1,h2⟩
  |succ i=>
   obtain⟨u',h4,h5⟩:=RepC.get i h3 (by simpa using hd)
   exact⟨u',by rw [show off+(i+1)=off+1+i by omega];exact h4,h5⟩
theorem RepC.of {M:Nat→Prop} {w:World} {b:Nat}:∀ {ds:List D} {off:Nat},(∀ (i:Nat) d,ds[i]?=some d→ ∃ u,w.cell? ⟨b,off+i,none⟩=some u∧Rep M w none d u)→RepC M w b off ds
 | [],off,h=>by simp only [RepC]
 |d::ds,off,h=>by
  simp only [RepC]
  exact⟨h 0 d (by simp),RepC.of fun i d' hd=>by
   have:=h (i+1) d' (by simpa using hd)
   rwa [show off+(i+1)=off+1+i by omega] at this⟩
structure DS where
 f:Fr
 σ:Sg
def Mx (M0:Nat→Prop) (g:Gh) (σ:Sg) (b:Nat):Prop:=M0 b∨ ∃ id,blkOf g σ id=some b
def keysOf:List D→Option (List Value ⊕ (LR ⊕ TypeId))
 | .keys ks::_=>some (.inl ks)
 | .lrec r::_=>some (.inr (.inl r))
 | .typ t::_=>some (.inr (.inr t))
 |_=>none
def ObjIs (o:Obj) (cs:List D) (vs:List Value):Prop:=match keysOf cs with
 |some (.inl ks)=> ∃ es clock,o= .map es clock∧es.toList.map (·.key)=ks∧vs.tail=es.toList.map (·.val)
 |some (.inr (.inr t))=>o= .cells vs.tail.toArray t (0,0)
 |some (.inr (.inl r))=> ∃ fn D,o= .loop { state:=r.st,pending:=r.pend,fn:=fn,tmps:=vs.tail.toArray,params:=r.ps,assign:=r.asg,body:=r.body,defers:=D }
 |none=> ∃ T,o= .cells vs.toArray T (0,0)
theorem ObjIs.of {o:Obj} {cs cs':List D} {vs:List Value} (h:ObjIs o cs vs) (he:keysOf cs'=keysOf cs):ObjIs o cs' vs:=by unfold ObjIs at h ⊢;rw [he];exact h
theorem ObjIs.cells {o:Obj} {cs:List D} {vs:List Value} (h:ObjIs o cs vs) (he:keysOf cs=none):∃ T,o= .cells vs.toArray T (0,0):=by unfold ObjIs at h;rw [he] at h;exact h
theorem ObjIs.mk {cs:List D} {vs:List Value} {T:TypeId} (he:keysOf cs=none):ObjIs (.cells vs.toArray T (0,0)) cs vs:=by unfold ObjIs;rw [he];exact⟨T,rfl⟩
def OwnR (w:World) (e:TypeId) (size:Nat) (v:Value) (n:Nat) (xs:List Value):Prop:=
 xs.length=n*size∧((v= .slice none 0 0∧n=0)∨
    ∃ g o cap cur fz,v= .slice (some ⟨g,o,none⟩) n cap∧w.heap[g]?=some (.cells cur e fz)∧(fz=(0,0)∨cur.size≤fz.1)∧n≤cap∧cap≤maxLen∧o+cap*size≤cur.size∧(cur.toList.drop o).take (n*size)=xs)
theorem OwnR.nil (w:World) (e size:Nat):OwnR w e size (.slice none 0 0) 0 []:=⟨by simp,.inl ⟨rfl,rfl⟩⟩
theorem OwnR.mut {w w':World} {S:Nat→Prop} {e:TypeId} {sz:Nat} {v:Value} {n:Nat} {cs:List Value} (h:OwnR w e sz v n cs) (m:Mut S w w') (hs:∀ k,v.ownBlock=some k→ ¬ S k):OwnR w' e sz v n cs:=by
 refine⟨h.1,?_⟩
 rcases h.2 with hn| ⟨g,o,cap,cur,fz,rfl,hgg,rest⟩
 ·exact .inl hn
 ·exact .inr ⟨g,o,cap,cur,fz,rfl,m.heap hgg (hs g rfl),rest⟩
def EntOk (M:Nat→Prop) (w:World) (g:Gh) (σ:Sg) (id:Nat):Ent→Prop
 | .box cs=> ∃ (vs:List Value) (o:Obj),w.heap[g.blk id]?=some o∧RepL M w (some (g,σ)) cs vs∧ObjIs o cs vs
 | .row e n len cs=> ∃ vs:List Value,OwnR w e n (g.row id) len vs∧RepL M w (some (g,σ)) cs vs
 | .dead=>True
structure Bd where
 blk:Nat→Prop
 box:Nat→Nat→Prop
 row:Nat→Nat→Value→Prop
 up:∀ id len v len' v',row id len v→len<len'→row id len' v'
def Bd.none:Bd:=⟨fun _=>False,fun _ _=>False,fun _ _ _=>False,fun _ _ _ _ _ h=>h.elim⟩
def newId (N id:Nat):Bool:=Nat.blt id 100000 || !Nat.testBit (id / 100000) N
def Anc (B0:Bd) (N:Nat) (g:Gh) (σ:Sg):Prop:= ∀ id,(∀ cs,lkE σ id=some (.box cs)→newId N id=true∨B0.box id (g.blk id))∧(∀ e n len cs,lkE σ id=some (.row e n len cs)→newId N id=true∨B0.row id len (g.row id))
theorem Anc.nil {B0:Bd} {N:Nat} {g:Gh}:Anc B0 N g []:=fun id=>⟨fun cs h=>by simp [lkE] at h,fun e n len cs h=>by simp [lkE] at h⟩
theorem Anc.grow {B0:Bd} {N:Nat} {g g':Gh} {σ σ':Sg} (h:Anc B0 N g σ) (hg:Grow (g,σ) (g',σ')) (hn:∀ id,lkE σ id=none→lkE σ' id≠none→newId N id=true):Anc B0 N g' σ':=fun id=>by
  cases he:lkE σ id with
  | none=>
    refine⟨fun cs hc=> .inl (hn id he (by rw [hc];simp)),fun e n len cs hc=> .inl (hn id he (by rw [hc];simp))⟩
  | some x =>
    cases x with
    | box cs0=>
      obtain⟨⟨cs1,q1⟩,q2⟩:=hg.box id cs0 he
      have q1:lkE σ' id=some (.box cs1):=q1
      refine⟨fun cs hc=>?_,fun e n len cs hc=>by rw [q1] at hc;cases hc⟩
      rw [q2]
      exact (h id).1 cs0 he
    | row e0 n0 len0 cs0=>
      rcases hg.row id e0 n0 len0 cs0 he with q0| ⟨e1,n1,len1,cs1,q1,q2,q3⟩
      · have q0:lkE σ' id=some .dead:=q0
        exact⟨fun cs hc=>(by rw [q0] at hc;cases hc),fun e n len cs hc=>(by rw [q0] at hc;cases hc)⟩
      have q1:lkE σ' id=some (.row e1 n1 len1 cs1):=q1
      refine⟨fun cs hc=>(by rw [q1] at hc;cases hc),fun e n len cs hc=>?_⟩
      rw [q1] at hc
      cases hc
      rcases (h id).2 e0 n0 len0 cs0 he with q4|q4
      ·exact .inl q4
      · rcases Nat.lt_or_ge len0 len1 with q5|q5
        ·exact .inr (B0.up _ _ _ _ _ q4 q5)
        · have:len1=len0:=by omega
          subst this
          exact .inr (by rw [q3 rfl];exact q4)
    | dead=>
      have q0:lkE σ' id=some .dead:=hg.dead id he
      exact⟨fun cs hc=>(by rw [q0] at hc;cases hc),fun e n len cs hc=>(by rw [q0] at hc;cases hc)⟩
class GlobW where
 gl:List (Nat × List (Value→Prop))
variable [GlobW]
def GlW (w:World):Prop:= ∀ p∈GlobW.gl,∃ (cs:Array Value) (T:TypeId) (fz:Nat × Nat),w.heap[p.1]?=some (.cells cs T fz)∧cs.size=p.2.length∧ ∀ (i:Nat) (c:Value→Prop),p.2[i]?=some c→ ∃ u,cs[i]?=some u∧c u
def GlB (b:Nat):Prop:= ∃ cs,(b,cs)∈GlobW.gl
theorem GlW.mut {S:Nat→Prop} {w w':World} (h:GlW w) (m:Mut S w w') (hS:∀ b,GlB b→ ¬ S b):GlW w':=fun p hp=>by
 obtain⟨cs,T,fz,h1,h2⟩:=h p hp
 exact⟨cs,T,fz,m.heap h1 (hS p.1 ⟨p.2,hp⟩),h2⟩
theorem GlW.lt {w:World} (h:GlW w) {b:Nat} (hb:GlB b):b<w.heap.size:=by
 obtain⟨cs,hcs⟩:=hb
 obtain⟨cs,T,fz,h1,h2⟩:=h _ hcs
 exact (Array.getElem?_eq_some_iff.1 h1).1
theorem GlW.all {w:World} (h:GlW w) {b:Nat} {vs:List Value} (hb:(b,vs.map fun v u=>u=v)∈GlobW.gl):∃ (T:TypeId) (fz:Nat × Nat),w.heap[b]?=some (.cells vs.toArray T fz):=by
 obtain⟨cs,T,fz,h1,h2,h3⟩:=h _ hb
 simp only [List.length_map] at h2 h3
 refine⟨T,fz,?_⟩
 rw [h1]
 congr 2
 apply Array.ext'
 apply List.ext_getElem?
 intro i
 rw [List.toList_toArray]
 cases hi:vs[i]? with
 |none=>
  have:=List.getElem?_eq_none_iff.1 hi
  simp only [Array.getElem?_toList]
  exact Array.getElem?_eq_none (by omega)
 |some v=>
  obtain⟨u,q1,q2⟩:=h3 i (fun u=>u=v) (by simp [hi])
  rw [q2] at q1
  simpa using q1
structure GlOk (w0:World) (B:Nat→Prop):Prop where
 w:GlW w0
 n:∀ b,GlB b→ ¬ B b
def Dfs (n0:Nat) (g:Gh) (σ:Sg) (a:Act) (w:World):Prop:= ∃ Ds:List Nat,a.defers=Ds.map (fun D=>{ target:= .collected D,args:= #[] })∧Ds.Nodup∧ ∀ D∈Ds,(w.heap[D]?=some (.deferred (some []))∧n0≤D)∧ ∀ id,blkOf g σ id≠some D
theorem Dfs.nil {n0:Nat} {g:Gh} {σ:Sg} {a:Act} {w:World} (h:a.defers=[]):Dfs n0 g σ a w:=⟨[],h,List.nodup_nil,fun D hD=>by cases hD⟩
theorem Dfs.step {n0:Nat} {g g':Gh} {σ σ':Sg} {a a':Act} {w w':World} (h:Dfs n0 g σ a w) {S:Nat→Prop} (m:Mut S w w') (ha:a'.defers=a.defers) (hS:∀ b,b<w.heap.size→S b→ ∃ id,blkOf g σ id=some b) (hb:∀ id b,blkOf g' σ' id=some b→b<w.heap.size→ ∃ id',blkOf g σ id'=some b):Dfs n0 g' σ' a' w':=by
 obtain⟨Ds,h1,h2,h3⟩:=h
 refine⟨Ds,ha.trans h1,h2,fun D hD=>?_⟩
 obtain⟨⟨h4,h6⟩,h5⟩:=h3 D hD
 have hlt:D<w.heap.size:=(Array.getElem?_eq_some_iff.1 h4).1
 refine⟨⟨m.heap h4 (fun hs=>?_),h6⟩,fun id hid=>?_⟩
 ·obtain⟨id,hid⟩:=hS D hlt hs
  exact h5 id hid
 ·obtain⟨id',hid'⟩:=hb id D hid hlt
  exact h5 id' hid'
structure StG (w0:World) (M0:Nat→Prop) (B0:Bd) (N:Nat) (g:Gh) (s:DS) (a:Act) (w:World):Prop where
 chg:Mut B0.blk w0 w
 m0:∀ b,M0 b→b<w0.heap.size
 df:Dfs w0.heap.size g s.σ a w
 sz:a.tmps.size=N % 512
 tm:∀ t,Rep (Mx M0 g s.σ) w (some (g,s.σ)) (lkF s.f t) (a.tmps.getD t undef)
 ent:∀ id e,lkE s.σ id=some e→EntOk (Mx M0 g s.σ) w g s.σ id e
 sep:∀ id id' b,blkOf g s.σ id=some b→blkOf g s.σ id'=some b→id=id'
 new:∀ id b,blkOf g s.σ id=some b→b<w.heap.size∧(b<w0.heap.size→B0.blk b)∧ ¬ M0 b
 anc:Anc B0 N g s.σ
 glo:GlOk w0 B0.blk
theorem StG.glw {w0:World} {M0:Nat→Prop} {B0:Bd} {N:Nat} {g:Gh} {s:DS} {a:Act} {w:World} (h:StG w0 M0 B0 N g s a w):GlW w:=h.glo.w.mut h.chg h.glo.n
def St (w0:World) (M0:Nat→Prop) (B0:Bd) (N:Nat) (s:DS) (a:Act) (w:World):Prop:= ∃ g,StG w0 M0 B0 N g s a w
def updF (f:Fr):Option Tmp→D→Fr
 |some t,d=>(t,d)::f
 |none,_=>f
theorem cv_ (t:Nat) (d:D) (f:Fr) (k:Nat):lkF ((t,d)::f) k=if t=k then d else lkF f k:=by
 simp only [lkF]
 by_cases h:t=k
 ·subst h;simp
 ·have hb:(t == k)=false:=by
   cases hb:(t == k) with
   |false=>rfl
   |true=>exact absurd (eq_of_beq hb) h
  simp [h,hb]
theorem aa_ (t:Nat) (d:Option Ent) (f:Sg) (k:Nat):lkE ((t,d)::f) k=if t=k then d else lkE f k:=by
 simp only [lkE]
 by_cases h:t=k
 ·subst h;simp
 ·have hb:(t == k)=false:=by
   cases hb:(t == k) with
   |false=>rfl
   |true=>exact absurd (eq_of_beq hb) h
  simp [h,hb]
theorem ll_ (a:Act) (dst:Option Tmp) (v:Value) (t:Nat) (h:∀ k,dst=some k→k<a.tmps.size):(a.put dst v).tmps.getD t undef=if dst=some t then v else a.tmps.getD t undef:=by
 cases dst with
 |none=>simp [Act.put]
 |some k=>
  by_cases e:k=t
  ·subst e;simp [Act.put,h k rfl]
  ·simp [Act.put,e,Array.getElem?_setIfInBounds]
theorem kt_ (a:Act) (dst:Option Tmp) (v:Value):(a.put dst v).tmps.size=a.tmps.size:=by cases dst <;> simp [Act.put]
theorem g6_ (a:Act) (dst:Option Tmp) (v:Value):(a.put dst v).defers=a.defers:=by cases dst <;> simp [Act.put]
theorem StG.entFix {w0:World} {M0:Nat→Prop} {B0:Bd} {N:Nat} {g:Gh} {s:DS} {a:Act} {w w':World} (h:StG w0 M0 B0 N g s a w) (m:Fix w w'):∀ id e,lkE s.σ id=some e→EntOk (Mx M0 g s.σ) w' g s.σ id e:=fun id e he=>by
 have:=h.ent id e he
 cases e with
 |box cs=>
  obtain⟨vs,T,h1,h2,h3⟩:=this
  exact⟨vs,T,m.heap h1 (by simp),h2.fix m,h3⟩
 |row e n len cs=>
  obtain⟨vs,h1,h2⟩:=this
  exact⟨vs,h1.mut m (by simp),h2.fix m⟩
 |dead=>trivial
def dstOk (N:Nat):Option Tmp→Bool
 |some k=>Nat.blt k (N % 512)
 |none=>true
theorem StG.pure {w0:World} {M0:Nat→Prop} {B0:Bd} {N:Nat} {g:Gh} {s:DS} {a:Act} {w w':World} (h:StG w0 M0 B0 N g s a w) (m:Fix w w') {dst:Option Tmp} (hd:dstOk N dst=true) {d:D} {v:Value}
  (hr:Rep (Mx M0 g s.σ) w' (some (g,s.σ)) d v):StG w0 M0 B0 N g ⟨updF s.f dst d,s.σ⟩ (a.put dst v) w':=by
 refine⟨h.chg.trans (m.mono fun _ _ e=>e.elim),h.m0,h.df.step m (g6_ _ _ _) (fun _ _ e=>e.elim) (fun id b hb _=>⟨id,hb⟩),by rw [kt_];exact h.sz,fun t=>?_,fun id e he=>?_,h.sep,fun id b hb=>?_,h.anc,h.glo⟩
 ·rw [ll_ _ _ _ _ (fun k hk=>by subst hk;rw [h.sz];simpa [dstOk] using hd)]
  cases dst with
  |none=>simpa [updF] using (h.tm t).fix m
  |some k=>
   simp only [updF,cv_,Option.some.injEq]
   by_cases e:k=t
   ·rw [if_pos e,if_pos e];exact hr
   ·rw [if_neg e,if_neg e];exact (h.tm t).fix m
 ·have:=h.ent id e he
  cases e with
  |box cs=>
   obtain⟨vs,T,h1,h2,h3⟩:=this
   exact⟨vs,T,m.heap h1 (by simp),h2.fix m,h3⟩
  |row e n len cs=>
   obtain⟨vs,h1,h2⟩:=this
   exact⟨vs,h1.mut m (by simp),h2.fix m⟩
  |dead=>trivial
 ·have:=h.new id b hb
  exact⟨Nat.lt_of_lt_of_le this.1 m.size,this.2⟩
theorem ka_ (g:Gh) (k:Nat) (e:Option Ent) (σ:Sg) (id:Nat):blkOf g ((k,e)::σ) id=if k=id then (match e with|some (.box _)=>some (g.blk id)|some (.row ..)=>(g.row id).ownBlock|some .dead=>none|none=>none) else blkOf g σ id:=by
 unfold blkOf
 rw [aa_]
 by_cases h:k=id
 ·rw [if_pos h,if_pos h]
 ·rw [if_neg h,if_neg h]
theorem StG.set1 {w0:World} {M0:Nat→Prop} {B0:Bd} {N:Nat} {g g':Gh} {s:DS} {a:Act} {w w':World} (h:StG w0 M0 B0 N g s a w) (id:Nat) (e':Ent) (hid:lkE s.σ id=none→newId N id=true) (m:Mut (fun b=>blkOf g s.σ id=some b) w w')
  (hg1:∀ k,k≠id→g'.blk k=g.blk k) (hg2:∀ k,k≠id→g'.row k=g.row k) (hgr:Grow (g,s.σ) (g',(id,some e')::s.σ))
  (hb:∀ b,blkOf g' ((id,some e')::s.σ) id=some b→b<w'.heap.size∧(b<w.heap.size→blkOf g s.σ id=some b))
  (he:∀ M:Nat→Prop,(∀ b,b<w.heap.size→M b→Mx M0 g s.σ b)→EntOk M w' g' ((id,some e')::s.σ) id e')
  {dst:Option Tmp} (hd:dstOk N dst=true) {d:D} {v:Value} (hr:∀ M:Nat→Prop,(∀ b,b<w.heap.size→M b→Mx M0 g s.σ b)→Rep M w' (some (g',(id,some e')::s.σ)) d v):
  StG w0 M0 B0 N g' ⟨updF s.f dst d,(id,some e')::s.σ⟩ (a.put dst v) w':=by
 have hne:∀ k,k≠id→blkOf g' ((id,some e')::s.σ) k=blkOf g s.σ k:=fun k hk=>by
  rw [ka_,if_neg (fun e=>hk e.symm)]
  unfold blkOf
  rw [hg1 k hk,hg2 k hk]
 have hS:∀ b,b<w.heap.size→blkOf g s.σ id=some b→Mx M0 g s.σ b:=fun b _ hb=> .inr ⟨id,hb⟩
 have hM:∀ b,b<w.heap.size→Mx M0 g' ((id,some e')::s.σ) b→Mx M0 g s.σ b:=fun b hlt hx=>by
  rcases hx with hx| ⟨k,hk⟩
  ·exact .inl hx
  ·by_cases e:k=id
   ·subst e;exact .inr ⟨k,(hb b hk).2 hlt⟩
   ·rw [hne k e] at hk;exact .inr ⟨k,hk⟩
 have hB:∀ b,b<w0.heap.size→blkOf g s.σ id=some b→B0.blk b:=fun b hlt hb'=>(h.new id b hb').2.1 hlt
 have hst:∀ d v,Rep (Mx M0 g s.σ) w (some (g,s.σ)) d v→Rep (Mx M0 g' ((id,some e')::s.σ)) w' (some (g',(id,some e')::s.σ)) d v:=fun d v h1=>h1.step (G:=some _) (G':=some _) hgr m hS hM
 refine⟨h.chg.trans' m hB,h.m0,h.df.step m (g6_ _ _ _) (fun b _ hb=>⟨id,hb⟩) (fun k b hk hlt=>by
  by_cases e:k=id
  ·subst e;exact⟨k,(hb b hk).2 hlt⟩
  ·rw [hne k e] at hk;exact⟨k,hk⟩),by rw [kt_];exact h.sz,fun t=>?_,fun k e hk=>?_,fun k k' b h1 h2=>?_,fun k b hk=>?_,h.anc.grow hgr (fun k h1 h2=>(by
  simp only [aa_] at h2
  by_cases e:id=k
  ·subst e;exact hid h1
  ·rw [if_neg e] at h2;exact absurd h1 h2)),h.glo⟩
 ·rw [ll_ _ _ _ _ (fun k hk=>by subst hk;rw [h.sz];simpa [dstOk] using hd)]
  cases dst with
  |none=>simpa [updF] using hst _ _ (h.tm t)
  |some k=>
   simp only [updF,cv_,Option.some.injEq]
   by_cases e:k=t
   ·rw [if_pos e,if_pos e];exact hr _ hM
   ·rw [if_neg e,if_neg e];exact hst _ _ (h.tm t)
 ·simp   only [aa_] at hk
  by_cases e1:id=k
  ·rw [if_pos e1] at hk;cases hk;subst e1;exact he _ hM
  ·rw    [if_neg e1] at hk
   have e2:k≠id:=fun e=>e1 e.symm
   have hsepk:∀ b,blkOf g s.σ k=some b→ ¬ blkOf g s.σ id=some b:=fun b h1 h2=>e1 (h.sep id k b h2 h1)
   have:=h.ent k e hk
   cases e with
   |    box cs=>
        obtain⟨vs,T,h1,h2,h3⟩:=this
        have hbk:blkOf g s.σ k=some (g.blk k):=by unfold blkOf;rw [hk]
        refine⟨vs,T,?_,RepL.step (G:=some _) (G':=some _) hgr m hS hM cs vs h2,h3⟩
        rw [hg1 k e2];exact m.heap h1 (hsepk _ hbk)
   |    row e n len cs=>
        obtain⟨vs,h1,h2⟩:=this
        refine⟨vs,?_,RepL.step (G:=some _) (G':=some _) hgr m hS hM cs vs h2⟩
        rw [hg2 k e2]
        exact h1.mut m (fun b hb'=>hsepk b (by unfold blkOf;rw [hk];exact hb'))
   |dead=>trivial
 ·by_cases e1:k=id
  ·by_cases e2:k'=id
   ·rw [e1,e2]
   ·    subst e1
        rw [hne k' e2] at h2
        have hlt:=(h.new k' b h2).1
        exact absurd (h.sep k k' b ((hb b h1).2 hlt) h2) (fun e=>e2 e.symm)
  ·by_cases e2:k'=id
   ·    subst e2
        rw [hne k e1] at h1
        have hlt:=(h.new k b h1).1
        exact absurd (h.sep k k' b h1 ((hb b h2).2 hlt)) e1
   ·rw [hne k e1] at h1;rw [hne k' e2] at h2;exact h.sep k k' b h1 h2
 ·by_cases e1:k=id
  ·subst e1
   have h1:=hb b hk
   refine⟨h1.1,fun hlt=>?_,fun hm=>?_⟩
   ·exact (h.new k b (h1.2 (Nat.lt_of_lt_of_le hlt h.chg.size))).2.1 hlt
   ·    have hlt:b<w.heap.size:=Nat.lt_of_lt_of_le (h.m0 b hm) h.chg.size
        exact (h.new k b (h1.2 hlt)).2.2 hm
  ·rw [hne k e1] at hk
   have:=h.new k b hk
   exact⟨Nat.lt_of_lt_of_le this.1 m.size,this.2⟩
end Go.Dm
