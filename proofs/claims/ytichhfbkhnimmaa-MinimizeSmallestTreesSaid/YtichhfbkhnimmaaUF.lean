/- A machine over data: memory. No condition. -/
import Derived.Test.YtichhfbkhnimmaaUDd
set_option linter.unusedSimpArgs false
set_option linter.unusedVariables false
set_option linter.unusedSectionVars false
set_option maxHeartbeats 400000
namespace Go.Dm
open Go Go.RowKit Go.PP
variable [GlobW] [Rnd]
def oneD:D→Bool
 | .flat v=>v.oneCell'
 | .sl .. | .ptr .. | .own .. | .ref .. | .elp .. | .clo .. | .bsl .. | .mp .. | .ifn| .yl .. =>true
 |_=>false
theorem Rep.oneC {M:Nat→Prop} {w:World} {G:Cx} {d:D} {u:Value} (h:oneD d=true) (hv:Rep M w G d u):u.oneCell'=true∧u.cells= #[u]:=by
 cases d with
 |any=>simp [oneD] at h
 |flat v=>
  simp only [Rep] at hv
  subst hv
  simp only [oneD] at h
  refine⟨h,?_⟩
  cases u <;> first|rfl|(simp [Value.oneCell'] at h)
 |agg cs=>simp [oneD] at h
 |tup cs=>simp [oneD] at h
 |sl f n l cs=>simp only [Rep] at hv;obtain⟨a,c,rfl,_⟩:=hv;exact⟨rfl,rfl⟩
 |ptr cs o=>simp only [Rep] at hv;obtain⟨a,c,rfl,_⟩:=hv;exact⟨rfl,rfl⟩
 |own id L=>simp only [Rep] at hv;obtain⟨_,_,_,_,_,_,_,_,_,_,a,c,rfl⟩:=hv;exact⟨rfl,rfl⟩
 |ref id o=>simp only [Rep] at hv;obtain⟨_,_,_,_,_,rfl⟩:=hv;exact⟨rfl,rfl⟩
 |elp id L o=>simp only [Rep] at hv;obtain⟨_,_,_,_,_,_,_,_,_,_,a,rfl⟩:=hv;exact⟨rfl,rfl⟩
 |clo f a b=>simp only [Rep] at hv;obtain⟨_,_,rfl,_⟩:=hv;exact⟨rfl,rfl⟩
 |keys ks=>simp [oneD] at h
 |lrec r=>simp [oneD] at h
 |typ t=>simp [oneD] at h
 |yl id=>simp only [Rep] at hv;obtain⟨_,_,_,_,_,rfl⟩:=hv;exact⟨rfl,rfl⟩
 |bsl id o l c=>simp only [Rep] at hv;obtain⟨_,_,_,_,_,rfl⟩:=hv;exact⟨rfl,rfl⟩
 |mp id=>simp only [Rep] at hv;obtain⟨_,_,_,_,_,rfl⟩:=hv;exact⟨rfl,rfl⟩
 |ifn=>simp only [Rep] at hv;obtain⟨_,_,rfl⟩:=hv;exact⟨rfl,rfl⟩
def oneL:List D→Bool
 | []=>true
 |d::ds=>oneD d && oneL ds
theorem RepL.one {M:Nat→Prop} {w:World} {G:Cx}:∀ {ds:List D} {vs:List Value},oneL ds=true→RepL M w G ds vs→ ∀ v∈vs,v.oneCell'=true
 | [],vs,_,h=>by simp only [RepL] at h;subst h;simp
 |d::ds,vs,ho,h=>by
  simp only [oneL,Bool.and_eq_true] at ho
  simp only [RepL] at h
  obtain⟨u,us,rfl,h2,h3⟩:=h
  intro v hv
  rcases List.mem_cons.1 hv with rfl|hv
  ·exact (Rep.oneC ho.1 h2).1
  ·exact RepL.one ho.2 h3 v hv
def cellsD:D→Option (List D)
 | .agg cs=>some cs
 |d=>if oneD d then some [d] else none
theorem fg_ {M:Nat→Prop} {w:World} {G:Cx} {d:D} {u:Value} {cs:List D} (h:cellsD d=some cs) (hv:Rep M w G d u):∃ vs:List Value,u.cells=vs.toArray∧RepL M w G cs vs:=by
 have key:oneD d=true→cs=[d]→ ∃ vs:List Value,u.cells=vs.toArray∧RepL M w G cs vs:=fun h1 h2=>by
  subst h2
  exact⟨[u],(Rep.oneC h1 hv).2,by simp only [RepL];exact⟨u,[],rfl,hv,rfl⟩⟩
 cases d with
 |agg cs'=>
  simp only [cellsD,Option.some.injEq] at h
  subst h
  simp only [Rep] at hv
  obtain⟨vs,rfl,h2⟩:=hv
  exact⟨vs,rfl,h2⟩
 |_=>
  simp only [cellsD] at h
  split at h
  ·rename_i h1
   exact key h1 (by cases h;rfl)
  ·cases h
def flats (vs:Array Value):List D:=vs.toList.map .flat
theorem mo_ (vs:Array Value):keysOf (flats vs)=none:=by
 unfold flats
 cases vs.toList <;> rfl
theorem qu_ {cs:List D} (h:oneL cs=true):keysOf cs=none:=by
 cases cs with
 |nil=>rfl
 |cons d r=>cases d <;> first|rfl|(simp [oneL,oneD] at h)
theorem id_ {M:Nat→Prop} {w:World} {G:Cx} (vs:Array Value):RepL M w G (flats vs) vs.toList:=by
 unfold flats
 induction vs.toList with
 |nil=>simp [RepL]
 |cons v r ih=>simp only [List.map_cons,RepL];exact⟨v,r,rfl,by simp only [Rep],ih⟩
theorem RepL.append {M:Nat→Prop} {w:World} {G:Cx}:∀ {ds es:List D} {vs us:List Value},RepL M w G ds vs→RepL M w G es us→RepL M w G (ds++es) (vs++us)
 | [],es,vs,us,h,h2=>by simp only [RepL] at h;subst h;simpa using h2
 |d::ds,es,vs,us,h,h2=>by
  simp only [RepL] at h
  obtain⟨u,us',rfl,h3,h4⟩:=h
  simp only [List.cons_append,RepL]
  exact⟨u,us'++us,rfl,h3,RepL.append h4 h2⟩
def spliceD {α:Type} (cs:List α) (off:Nat) (ds:List α):List α:=cs.take off++ds++cs.drop (off+ds.length)
theorem RepL.splice {M:Nat→Prop} {w:World} {G:Cx} {cs ds:List D} {vs us:List Value} {off:Nat} (h:RepL M w G cs vs) (h2:RepL M w G ds us):RepL M w G (spliceD cs off ds) (spliceD vs off us):=by
 unfold spliceD
 rw [h2.length]
 exact RepL.append (RepL.append (h.take off) h2) (h.drop _)
theorem gd_ {cs ds:List D} {off:Nat} (h:keysOf cs=none) (ho:oneL ds=true):keysOf (spliceD cs off ds)=none:=by
 unfold spliceD
 cases cs with
 |nil=>
  simp only [List.take_nil,List.nil_append,List.drop_nil,List.append_nil]
  exact qu_ ho
 |cons   c r=>
  cases off with
  |zero  =>
   cases ds with
   |nil=>simpa using h
   |    cons d ds=>
        simp only [List.take_zero,List.nil_append,List.cons_append]
        cases d <;> first|rfl|(simp [oneL,oneD] at ho)
  |succ off=>
   simp only [List.take_succ_cons,List.cons_append]
   cases c <;> first|rfl|(simp [keysOf] at h)
theorem ci_ {α:Type} {cs ds:List α} {off:Nat} (h:off+ds.length≤cs.length):(spliceD cs off ds).length=cs.length:=by
 unfold spliceD;simp;omega
theorem di_ {α:Type} {cs ds:List α} {off:Nat} (h:off+ds.length≤cs.length) (k:Nat):(spliceD cs off ds)[k]?=if k<off then cs[k]? else if k<off+ds.length then ds[k - off]? else cs[k]?:=by
 unfold spliceD
 have hl:(cs.take off).length=off:=by simp;omega
 by_cases h1:k<off
 ·rw [if_pos h1,List.append_assoc,List.getElem?_append_left (by omega),List.getElem?_take,if_pos h1]
 ·rw [if_neg h1,List.append_assoc,List.getElem?_append_right (by omega),hl]
  by_cases h2:k<off+ds.length
  ·rw [if_pos h2,List.getElem?_append_left (by omega)]
  ·rw [if_neg h2,List.getElem?_append_right (by omega),List.getElem?_drop]
   congr 1;omega
theorem ne_ {α:Type} (off:Nat):∀ (us:List α) (cs:Array α) (i:Nat),((us.zipIdx i).foldl (fun cs (p:α × Nat)=>cs.setIfInBounds (off+p.2) p.1) cs).size=cs.size∧
  ∀ k,((us.zipIdx i).foldl (fun cs (p:α × Nat)=>cs.setIfInBounds (off+p.2) p.1) cs)[k]?=if off+i≤k∧k<off+i+us.length∧k<cs.size then us[k - (off+i)]? else cs[k]?
 | [],cs,i=>by simp;intro k h1 h2;omega
 |u::    us,cs,i=>by
  obtain⟨h1,h2⟩:=ne_ off us (cs.setIfInBounds (off+i) u) (i+1)
  simp only [List.zipIdx_cons,List.foldl_cons]
  refine⟨by rw [h1];simp,fun k=>?_⟩
  rw [h2]
  simp only [Array.size_setIfInBounds,List.length_cons]
  by_cases e:k=off+i
  ·subst e
   rw [if_neg (by omega)]
   by_cases hk:off+i<cs.size
   ·rw [if_pos (by omega)];simp [hk]
   ·rw [if_neg (by omega)];simp [hk]
  ·by_cases h3:off+(i+1)≤k∧k<off+(i+1)+us.length∧k<cs.size
   ·    rw [if_pos h3,if_pos (by omega)]
        rw [show k - (off+i)=(k - (off+(i+1)))+1 by omega];simp
   ·rw [if_neg h3,if_neg (by omega),Array.getElem?_setIfInBounds,if_neg (fun h=>e h.symm)]
theorem mg_ {α:Type} (off:Nat) (us:List α) (cs:Array α) (h:off+us.length≤cs.size):(us.toArray.zipIdx.foldl (fun cs (x:α × Nat)=>cs.setIfInBounds (off+x.2) x.1) cs).toList=spliceD cs.toList off us:=by
 obtain⟨h1,h2⟩:=ne_ off us cs 0
 have e:us.toArray.zipIdx.foldl (fun cs (x:α × Nat)=>cs.setIfInBounds (off+x.2) x.1) cs=(us.zipIdx 0).foldl (fun cs (p:α × Nat)=>cs.setIfInBounds (off+p.2) p.1) cs:=by
  rw [← Array.foldl_toList];simp
 rw [e]
 apply List.ext_getElem?
 intro k
 rw [Array.getElem?_toList,h2,di_ (by simpa using h)]
 simp only [Nat.add_zero,Array.getElem?_toList]
 by_cases h3:k<off
 ·rw [if_neg (by omega),if_pos h3]
 ·rw [if_neg h3]
  by_cases h4:k<off+us.length
  ·rw [if_pos (by omega),if_pos h4]
  ·rw [if_neg (by omega),if_neg h4]
def fillD (place:Nat→Option (Nat × Nat)) (cells:List D):List (Nat × D)→Option (List D)
 | []=>some cells
 |  (i,d)::r=>match place i,cellsD d with
    |some (off,size),some cs=>if cs.length=size∧off+cs.length≤cells.length then fillD place (spliceD cells off cs) r else none
    |_,_=>none
def partsF:List (Nat × Operand × D)→List (Nat × D)
 | []=> []
 |(i,_,d)::r=>(i,d)::partsF r
def partsO:List (Nat × Operand × D)→List (Nat × Operand)
 | []=> []
 |(i,x,_)::r=>(i,x)::partsO r
def partsE:List (Nat × Operand × D)→List (Operand × D)
 | []=> []
 |(_,x,d)::r=>(x,d)::partsE r
theorem li_ {M:Nat→Prop} {w:World} {G:Cx} {ρ:Operand→Value} {place:Nat→Option (Nat × Nat)}:∀ {ps:List (Nat × Operand × D)} {cells cs:List D} {vs:List Value},fillD place cells (partsF ps)=some cs→RepL M w G cells vs→Vals M w G ρ (partsE ps)→
   ∃ us:List Value,Instr.fill place vs.toArray ((partsO ps).map fun (i,x)=>(i,ρ x))=some us.toArray∧RepL M w G cs us
 | [],cells,cs,vs,h,hv,_=>by
   simp only [fillD,partsF,Option.some.injEq] at h
   subst h
   exact⟨vs,rfl,hv⟩
 | (i,  x,d) ::r,cells,cs,vs,h,hv,hp=>by
   simp only [partsF,fillD] at h
   simp only [partsO,List.map_cons,Instr.fill]
   cases hpl:place i with
   |none=>rw [hpl] at h;cases h
   |some  q  =>
    obtain⟨off,size⟩:=q
    cases hc:cellsD d with
    |none=>rw [hpl,hc] at h;cases h
    |   some ds=>
        rw [hpl,hc] at h
        simp only at h
        split at h
        ·rename_i hh
         obtain⟨us,hu,hr⟩:=fg_ hc hp.1
         have hl:=hr.length
         have hl2:=hv.length
         obtain⟨us2,h3,h4⟩:=li_ (ρ:=ρ) h (RepL.splice (off:=off) hv hr) hp.2
         refine⟨us2,?_,h4⟩
         have hu':(ρ x).cells=us.toArray:=hu
         dsimp only
         rw [hu',if_neg (by simp;omega)]
         have:=mg_ off us vs.toArray (by simp;omega)
         rw  [show (us.toArray.zipIdx.foldl (fun cs (x:Value × Nat)=>cs.setIfInBounds (off+x.2) x.1) vs.toArray)=(spliceD vs off us).toArray from by
            apply Array.toList_inj.1;simpa using this]
         exact h3
        ·cases h
end Go.Dm
namespace Go.Dm
open Go Go.RowKit Go.PP
variable [GlobW] [Rnd]
section
variable {P:Program} {N:Nat} {dst:Option Tmp} {ty:TypeId} {pos:String} {af:Array Edge} {gd:Option (Nat × Bool)}
theorem Tri.read {o:Oper} {pf:List (Operand × D)} {pe:Sg} {d:D} (hrun:∀ (w0:World) (M0:Nat→Prop) (B0:Bd) (g:Gh) (s:DS) (a:Act) (w:World),StG w0 M0 B0 N g s a w→Ens s.σ pe→Vals (Mx M0 g s.σ) w (some (g,s.σ)) a.eval pf→
  ∃ v w',(execOp a.eval o).run P w= .ok (.value v) w'∧Fix w w'∧Rep (Mx M0 g s.σ) w' (some (g,s.σ)) d v):Tri P N o pf pe d []:=by
 refine⟨?_⟩
 intro w0 M0 B0 s a w next Q h1 h2 hd ⟨g,hs⟩ hk
 obtain⟨v,w',hr,hm,hv⟩:=hrun w0 M0 B0 g s a w hs h2 (hs.vals h1)
 refine cy_ hr ?_
 exact hk _ _ ⟨g,hs.pure hm hd hv⟩
theorem ct_ (b o j:Nat):(⟨b,o,none⟩:Addr).add j=⟨b,o+j,none⟩:=Addr.add_mid b o j
theorem b6_ {M:Nat→Prop} {w:World} {G:Cx} {t:TypeId} {bb:Bool} {n off b o:Nat} {cs:List D} {vs:List Value} {d:D} (hb:aggOf P t=some bb) (hn:sizeOfT P t=some n) (h:partD bb n off cs=some d)
    (hc:∀ (i:Nat) u,vs[i]?=some u→w.cell? ⟨b,o+i,none⟩=some u) (hv:RepL M w G cs vs):∃ v,(Instr.loadAt t (.pointer (some ⟨b,o+off,none⟩))).run P w= .ok v w∧Rep M w G d v:=by
  unfold partD at h
  cases bb with
  | true =>
    rw [if_pos rfl] at h
    split at h
    · rename_i hle
      cases h
      refine⟨.agg ((vs.drop off).take n).toArray,?_,by simp only [Rep];exact⟨_,rfl,(hv.drop off).take n⟩⟩
      have hl:((vs.drop off).take n).length=n:=by simp;have:=hv.length;omega
      have :=run_loadCells_list (P:=P) w ⟨b,o+off,none⟩ ((vs.drop off).take n) (fun j u hj=>by
        rw [ct_]
        have:vs[off+j]?=some u:=by
          rw [List.getElem?_take] at hj
          split at hj
          ·rwa [List.getElem?_drop] at hj
          ·cases hj
        rw [Nat.add_assoc];exact hc _ _ this)
      rw [hl] at this
      simp only [Instr.loadAt,Instr.sureAddr,loadVar,Sem.run_bind,Sem.run_pure,Result.andThen_ok,e8_ hb,if_true,bt_ hn,this]
    ·cases h
  | false=>
    simp only [Bool.false_eq_true,if_false] at h
    obtain⟨u,hu,hr⟩:=hv.get off h
    refine⟨u,?_,hr⟩
    simp only [Instr.loadAt,Instr.sureAddr,loadVar,Sem.run_bind,Sem.run_pure,Result.andThen_ok,e8_ hb,Bool.false_eq_true,if_false,run_load,hc _ _ hu]
theorem T.loadRef {id off n:Nat} {bb:Bool} {cs:List D} {d:D} (t:TypeId) (x:Operand) (hb:aggOf P t=some bb) (hn:sizeOfT P t=some n) (h:partD bb n off cs=some d) (hk:keysOf cs=none:=by first|rfl|assumption):
  Tri P N ⟨dst,.load t x,ty,pos,af,gd⟩ [(x,.ref id off)] [(id,some (.box cs))] d []:=Tri.read fun w0 M0 B0 g s a w hs he hv=>by
 have h1:=hv.1
 simp only [Rep] at h1
 obtain⟨g',σ',cs0,hG,h2,h3⟩:=h1
 cases hG
 obtain⟨vs,T,o1,o2,o4⟩:=hs.ent id _ he.1
 obtain⟨T,rfl⟩:=o4.cells hk
 obtain⟨v,r1,r2⟩:=b6_ (P:=P) (b:=g.blk id) (o:=0) hb hn h (fun i u hu=>by simp only [World.cell?,o1,Nat.zero_add];simpa using hu) o2
 rw [Nat.zero_add] at r1
 exact⟨v,w,by simp only [execOp,h3,Sem.run_bind,r1,Result.andThen_ok,Sem.run_pure],Mut.refl _ w,r2⟩
theorem RepC.vals {M:Nat→Prop} {w:World} {b:Nat}:∀ {cs:List D} {o:Nat},RepC M w b o cs→ ∃ vs:List Value,RepL M w none cs vs∧ ∀ (i:Nat) u,vs[i]?=some u→w.cell? ⟨b,o+i,none⟩=some u
 | [],o,_=>⟨[],by simp only [RepL],fun i u h=>by simp at h⟩
 |d::ds,o,h=>by
  simp only [RepC] at h
  obtain⟨⟨u,q1,q2⟩,q3⟩:=h
  obtain⟨vs,q4,q5⟩:=RepC.vals q3
  refine⟨u::vs,by simp only [RepL];exact⟨u,vs,rfl,q2,q4⟩,fun i u' hu=>?_⟩
  cases i with
  |zero=>simp at hu;subst hu;exact q1
  |succ i=>rw [show o+(i+1)=o+1+i by omega];exact q5 i u' (by simpa using hu)
theorem T.loadPtr {off n:Nat} {bb:Bool} {cs:List D} {d:D} (t:TypeId) (x:Operand) (hb:aggOf P t=some bb) (hn:sizeOfT P t=some n) (h:partD bb n off cs=some d):
  Tri P N ⟨dst,.load t x,ty,pos,af,gd⟩ [(x,.ptr cs off)] [] d []:=Tri.val fun M w G ρ hv=>by
 have h1:=hv.1
 simp only [Rep] at h1
 obtain⟨b,o,h2,h3,h4,h5⟩:=h1
 obtain⟨vs,hl,hc⟩:=RepC.vals h5
 obtain⟨v,r1,r2⟩:=b6_ (P:=P) (b:=b) (o:=o) hb hn h hc hl
 exact⟨v,by simp only [execOp,h2,Sem.run_bind,r1,Result.andThen_ok,Sem.run_pure],r2.up⟩
theorem e6_ {w0:World} {M0:Nat→Prop} {B0:Bd} {g:Gh} {s:DS} {a:Act} {w:World} (hs:StG w0 M0 B0 N g s a w) {id e n L:Nat} {cs:List D} (he:lkE s.σ id=some (.row e n L cs)) {u:Value} (hu:Rep (Mx M0 g s.σ) w (some (g,s.σ)) (.own id L) u):
  u=g.row id∧ ∃ vs,OwnR w e n u L vs∧RepL (Mx M0 g s.σ) w (some (g,s.σ)) cs vs:=by
 simp only [Rep] at hu
 obtain⟨g',σ',hG,h1,_⟩:=hu
 cases hG
 have:=(hc_ he h1).2 rfl
 subst this
 obtain⟨vs,o1,o2⟩:=hs.ent id _ he
 exact⟨rfl,vs,o1,o2⟩
theorem T.loadElp {id L off n e en:Nat} {bb:Bool} {cs:List D} {d:D} (t:TypeId) (x:Operand) (hb:aggOf P t=some bb) (hn:sizeOfT P t=some n) (h:partD bb n off cs=some d):
  Tri P N ⟨dst,.load t x,ty,pos,af,gd⟩ [(x,.elp id L off)] [(id,some (.row e en L cs))] d []:=Tri.read fun w0 M0 B0 g s a w hs he hv=>by
 have h1:=hv.1
 simp only [Rep] at h1
 obtain⟨g',σ',hG,h2,_⟩:=h1
 cases hG
 obtain⟨b,o,l,c,h5,h6⟩:=(hc_ he.1 h2).2 rfl
 obtain⟨vs,o1,o2⟩:=hs.ent id _ he.1
 rcases ek_ o1 with⟨q1,q2⟩| ⟨b',o',cap,q1,q2,q3,q4⟩
 ·rw [q1] at h5;cases h5
 ·rw [q1] at h5
  simp only [Value.slice.injEq,Option.some.injEq,Addr.mk.injEq,and_true] at h5
  obtain⟨⟨rfl,rfl⟩, -, -⟩:=h5
  obtain⟨v,r1,r2⟩:=b6_ (P:=P) (b:=b') (o:=o') hb hn h q4 o2
  exact⟨v,w,by simp only [execOp,h6,Sem.run_bind,r1,Result.andThen_ok,Sem.run_pure],Mut.refl _ w,r2⟩
theorem je_ {fs:Array Field} {f:Field} {t:TypeId} {i n b o:Nat} (w:World) (ht:P.underlying t=some (.struct fs)) (hf:fs[i]?=some f) (hn:sizeOfT P f.type=some n) (h0:n≠0):
  (Instr.fieldAt t (.pointer (some ⟨b,o,none⟩)) i).run P w= .ok (.pointer (some ⟨b,o+f.offset,none⟩)) w:=by
 simp only [Instr.fieldAt,Sem.run_bind,ai_ ht,Result.andThen_ok,hf,Instr.sureAddr,Sem.run_pure,fieldPlace,bt_ hn,h0,if_false,ct_]
theorem T.fieldRef {fs:Array Field} {f:Field} {id off n:Nat} (t:TypeId) (x:Operand) (i:Nat) (ht:P.underlying t=some (.struct fs)) (hf:fs[i]?=some f) (hn:sizeOfT P f.type=some n) (h0:n≠0):
  Tri P N ⟨dst,.fieldAddr t x i,ty,pos,af,gd⟩ [(x,.ref id off)] [] (.ref id (off+f.offset)) []:=Tri.val fun M w G ρ hv=>by
 have h1:=hv.1
 simp only [Rep] at h1
 obtain⟨g',σ',cs0,hG,h2,h3⟩:=h1
 exact⟨.pointer (some ⟨g'.blk id,off+f.offset,none⟩),by simp only [execOp,h3,Sem.run_bind,je_ (P:=P) w ht hf hn h0,Result.andThen_ok,Sem.run_pure],by simp only [Rep];exact⟨g',σ',cs0,hG,h2,rfl⟩⟩
theorem T.fieldPtr {fs:Array Field} {f:Field} {off n:Nat} {cs:List D} (t:TypeId) (x:Operand) (i:Nat) (ht:P.underlying t=some (.struct fs)) (hf:fs[i]?=some f) (hn:sizeOfT P f.type=some n) (h0:n≠0):
  Tri P N ⟨dst,.fieldAddr t x i,ty,pos,af,gd⟩ [(x,.ptr cs off)] [] (.ptr cs (off+f.offset)) []:=Tri.val fun M w G ρ hv=>by
 have h1:=hv.1
 simp only [Rep] at h1
 obtain⟨b,o,h2,h3⟩:=h1
 exact⟨.pointer (some ⟨b,o+off+f.offset,none⟩),by simp only [execOp,h2,Sem.run_bind,je_ (P:=P) w ht hf hn h0,Result.andThen_ok,Sem.run_pure],by simp only [Rep];exact⟨b,o,by rw [Nat.add_assoc],h3⟩⟩
theorem f2_ {t e:TypeId} {n b o len cap:Nat} {k:IntKind} {i:Int} (w:World) (ht:P.underlying t=some (.slice e)) (hn:sizeOfT P e=some n) (h0:0≤i) (h1:i<len):
  (Instr.indexAt t (.slice (some ⟨b,o,none⟩) len cap) (.int k i)).run P w= .ok (.pointer (some ⟨b,o+i.toNat*n,none⟩)) w:=by
 simp only [Instr.indexAt,asIntOf,Sem.run_bind,Sem.run_pure,Result.andThen_ok,ai_ ht,h0,h1,and_self,if_true,bt_ hn,ct_]
theorem T.indexSl {f:Bool} {n len e:Nat} {cs:List D} {k:IntKind} {i:Int} (t:TypeId) (x y:Operand) (ht:P.underlying t=some (.slice e)) (hn:sizeOfT P e=some n) (h0:0≤i) (h1:i<len) (hp:0<n):
  Tri P N ⟨dst,.indexAddr t x y,ty,pos,af,gd⟩ [(x,.sl f n len cs),(y,.flat (.int k i))] [] (.ptr cs (i.toNat*n)) []:=Tri.val fun M w G ρ hv=>by
 have q1:=hv.1
 have q2:=hv.2.one
 simp only [Rep] at q1
 obtain⟨a,cap,r1,r2,r3,r4,r5,r6⟩:=q1
 rcases r6 with r6| ⟨b,o,rfl,r7,r8⟩
 ·have:0<len*n:=Nat.mul_pos (by omega) hp
  omega
 ·refine⟨.pointer (some ⟨b,o+i.toNat*n,none⟩),by simp only [execOp,r1,q2,Sem.run_bind,f2_ (P:=P) w ht hn h0 h1,Result.andThen_ok,Sem.run_pure],?_⟩
  simp only [Rep]
  refine⟨b,o,rfl,fun e=>?_,r7,r8⟩
  subst e
  have:0<len*n:=Nat.mul_pos (by omega) hp
  simp at r4;omega
theorem T.indexOwn {id L n e:Nat} {cs:List D} {k:IntKind} {i:Int} (t:TypeId) (x y:Operand) (ht:P.underlying t=some (.slice e)) (hn:sizeOfT P e=some n) (h0:0≤i) (h1:i<L):
  Tri P N ⟨dst,.indexAddr t x y,ty,pos,af,gd⟩ [(x,.own id L),(y,.flat (.int k i))] [(id,some (.row e n L cs))] (.elp id L (i.toNat*n)) []:=Tri.read fun w0 M0 B0 g s a w hs he hv=>by
 have q2:=hv.2.one
 obtain⟨q3,vs,o1,o2⟩:=e6_ hs he.1 hv.1
 rcases ek_ o1 with⟨r1,r2⟩| ⟨b,o,cap,r1,r2,r3,r4⟩
 ·subst r2;omega
 ·refine⟨.pointer (some ⟨b,o+i.toNat*n,none⟩),w,by simp only [execOp,r1,q2,Sem.run_bind,f2_ (P:=P) w ht hn h0 h1,Result.andThen_ok,Sem.run_pure],Mut.refl _ w,?_⟩
  simp only [Rep]
  exact⟨g,s.σ,rfl,.inr ⟨e,n,L,cs,he.1,Nat.le_refl _,fun _=>⟨b,o,_,_,by rw [← q3,r1],rfl⟩⟩,_,rfl⟩
theorem f7_ {t e:TypeId} {x:Operand} {a:Option Addr} {n c:Nat} (w:World) (ρ:Operand→Value) (hx:ρ x= .slice a n c) (ht:P.underlying t=some (.slice e)):
  (execOp ρ ⟨dst,.call { callee:= .builtin .len,args:= #[x],argTypes:= #[t] },ty,pos,af,gd⟩).run P w= .ok (.value (.int .i64 n)) w:=by
 simp [execOp,resolve,invoke,builtin,Builtin.len_,hx,ai_ ht,goInt]
theorem T.lenSl {f:Bool} {n len e:Nat} {cs:List D} (t:TypeId) (x:Operand) (ht:P.underlying t=some (.slice e)):
  Tri P N ⟨dst,.call { callee:= .builtin .len,args:= #[x],argTypes:= #[t] },ty,pos,af,gd⟩ [(x,.sl f n len cs)] [] (.flat (.int .i64 len)) []:=Tri.val fun M w G ρ hv=>by
 have q1:=hv.1
 simp only [Rep] at q1
 obtain⟨a,cap,r1,_⟩:=q1
 exact⟨_,f7_ w ρ r1 ht,by simp only [Rep]⟩
theorem T.lenNil {e:Nat} (t:TypeId) (x:Operand) (ht:P.underlying t=some (.slice e)):
  Tri P N ⟨dst,.call { callee:= .builtin .len,args:= #[x],argTypes:= #[t] },ty,pos,af,gd⟩ [(x,.flat (.slice none 0 0))] [] (.flat (.int .i64 0)) []:=Tri.val fun M w G ρ hv=>
 ⟨.int .i64 0,f7_ w ρ hv.one ht,by simp only [Rep]⟩
theorem T.lenOwn {id L e:Nat} (t:TypeId) (x:Operand) (ht:P.underlying t=some (.slice e)):
  Tri P N ⟨dst,.call { callee:= .builtin .len,args:= #[x],argTypes:= #[t] },ty,pos,af,gd⟩ [(x,.own id L)] [] (.flat (.int .i64 L)) []:=Tri.val fun M w G ρ hv=>by
 have q1:=hv.1
 simp only [Rep] at q1
 obtain⟨_,_,_,_,a,c,r1⟩:=q1
 exact⟨_,f7_ w ρ r1 ht,by simp only [Rep]⟩
def placesD (P:Program):List Field→Option (List (Nat × Nat))
 | []=>some []
 |  f::fs=>match sizeOfT P f.type,placesD P fs with
    |some n,some r=>some ((f.offset,n)::r)
    |_,_=>none
theorem run_places {w:World}:∀ {fs:List Field} {pl:List (Nat × Nat)},placesD P fs=some pl→(fs.mapM fun (f:Field)=>do let n ← sizeOf f.type;pure (f.offset,n)).run P w= .ok pl w
 | [],pl,h=>by simp only [placesD,Option.some.injEq] at h;subst h;rfl
 |f::fs,pl,h=>by
  simp only [placesD] at h
  split at h
  ·rename_i n r h1 h2
   cases h
   simp only [List.mapM_cons,Sem.run_bind,bt_ h1,Result.andThen_ok,Sem.run_pure,run_places h2]
  ·cases h
def zeroT (P:Program) (t:TypeId):Option Value:=(P.info? t).bind (·.zero)
theorem d9_ {t:TypeId} {z:Value} (h:zeroT P t=some z) (w:World):(zeroValue t).run P w= .ok z w:=by
 unfold zeroT at h
 cases hi:P.info? t with
 |none=>rw [hi] at h;cases h
 |some i=>
  rw [hi] at h
  simp only [Option.bind_some] at h
  simp only [zeroValue,typeInfo,Sem.run_bind,run_program,Result.andThen_ok,hi,Sem.run_pure,h]
theorem ia_ (ps:List (Nat × Operand × D)) (ρ:Operand→Value):((partsO ps).toArray.map fun (i,x)=>(i,ρ x)).toList=(partsO ps).map fun (i,x)=>(i,ρ x):=by simp
theorem T.buildS {fs:List Field} {pl:List (Nat × Nat)} {z:Value} {cs:List D} (t:TypeId) (ps:List (Nat × Operand × D)) (ht:P.underlying t=some (.struct fs.toArray)) (hz:zeroT P t=some z) (hp:placesD P fs=some pl)
  (h:fillD (fun i=>pl[i]?) (flats z.cells) (partsF ps)=some cs):Tri P N ⟨dst,.build t (partsO ps).toArray,ty,pos,af,gd⟩ (partsE ps) [] (.agg cs) []:=Tri.val fun M w G ρ hv=>by
 obtain⟨us,h1,h2⟩:=li_ (M:=M) (w:=w) (G:=G) (ρ:=ρ) h (id_ z.cells) hv
 refine⟨.agg us.toArray,?_,by simp only [Rep];exact⟨us,rfl,h2⟩⟩
 have hm:(fs.toArray.mapM fun (f:Field)=>do let n ← sizeOf f.type;pure (f.offset,n)).run P w= .ok pl.toArray w:=by
  rw [List.mapM_toArray,map_eq_pure_bind,Sem.run_bind,run_places hp]
  simp only [Result.andThen_ok,Sem.run_pure]
 simp only [execOp,Instr.build,Sem.run_bind,d9_ hz,Result.andThen_ok,ai_ ht,hm,ia_,List.getElem?_toArray]
 simp only [Array.toArray_toList] at h1
 rw [h1]
 simp only [Sem.run_pure,Result.andThen_ok]
theorem em_ (w:World) (o:Obj):(newObj o).run P w= .ok w.heap.size (w.alloc o):=rfl
theorem newBlock {w:World} {vs:List Value} {T:TypeId}:(w.alloc (.cells vs.toArray T)).heap[w.heap.size]?=some (.cells vs.toArray T (0,0)):=heap_alloc_new w _
theorem Tri.make {o:Oper} {pf:List (Operand × D)} {id:Nat} {e':Ent} {d:D} (hid:newId N id=true)
  (hrun:∀ (M:Nat→Prop) (w:World) (G:Cx) (ρ:Operand→Value),Vals M w G ρ pf→ ∃ (v:Value) (vs:List Value) (T:TypeId),(execOp ρ o).run P w= .ok (.value v) (w.alloc (.cells vs.toArray T))∧
    ((∃ cs,e'= .box cs∧d= .ref id 0∧v= .pointer (some ⟨w.heap.size,0,none⟩)∧RepL M w G cs vs∧keysOf cs=none)∨
     (∃ n len cs,e'= .row T n len cs∧d= .own id len∧v= .slice (some ⟨w.heap.size,0,none⟩) len len∧vs.length=len*n∧len≤maxLen∧RepL M w G cs vs))):Tri P N o pf [(id,none)] d [(id,some e')]:=by
 refine⟨?_⟩
 intro w0 M0 B0 s a w next Q h1 h2 hd ⟨g,hs⟩ hk
 obtain⟨v,vs,T,hr,hcase⟩:=hrun _ w (some (g,s.σ)) a.eval (hs.vals h1)
 refine cy_ hr ?_
 have hno:lkE s.σ id=none:=h2.1
 have hbn:blkOf g s.σ id=none:=by unfold blkOf;rw [hno]
 have hm:Fix w (w.alloc (.cells vs.toArray T)):=(Mut.refl _ w).alloc _
 have hm':Mut (fun b=>blkOf g s.σ id=some b) w (w.alloc (.cells vs.toArray T)):=hm.mono (fun _ _ e=>e.elim)
 have hgrow:∀ g':Gh,(∀ k,k≠id→g'.blk k=g.blk k)→(∀ k,k≠id→g'.row k=g.row k)→Grow (g,s.σ) (g',(id,some e')::s.σ):=fun g' q1 q2=>
  ⟨fun k cs hc=>by
    have hne:k≠id:=fun e=>by subst e;simp only at hc;rw [hno] at hc;cases hc
    exact⟨⟨cs,by rw [aa_,if_neg (fun e=>hne e.symm)];exact hc⟩,q1 k hne⟩,
   fun k e n len cs hc=>by
    have hne:k≠id:=fun e=>by subst e;simp only at hc;rw [hno] at hc;cases hc
    exact .inr ⟨e,n,len,cs,by rw [aa_,if_neg (fun e=>hne e.symm)];exact hc,Nat.le_refl _,fun _=>q2 k hne⟩,
   fun k hc=>by
    have hne:k≠id:=fun e=>by subst e;simp only at hc;rw [hno] at hc;cases hc
    simp only at hc ⊢
    rw [aa_,if_neg (fun e=>hne e.symm)];exact hc⟩
 rcases hcase with⟨cs,rfl,rfl,rfl,hrep,hko⟩| ⟨n,len,cs,rfl,rfl,rfl,hl1,hl2,hrep⟩
 ·refine hk _ _ ⟨⟨fun k=>if k=id then w.heap.size else g.blk k,g.row⟩,hs.set1 (g':=⟨fun k=>if k=id then w.heap.size else g.blk k,g.row⟩) id (.box cs) (fun _=>hid) hm' (fun k hk=>by simp [hk]) (fun k hk=>rfl) (hgrow _ (fun k hk=>by simp [hk]) (fun k hk=>rfl)) ?_ ?_ hd ?_⟩
  · intro b hb
    simp only [blkOf,aa_,if_pos,Option.some.injEq] at hb
    subst hb
    exact⟨by simp,fun h=>by omega⟩
  · intro M hM
    refine⟨vs,_,by simp only [if_pos];exact newBlock,?_,ObjIs.mk hko⟩
    exact RepL.step (G:=some _) (G':=some _) (hgrow ⟨fun k=>if k=id then w.heap.size else g.blk k,g.row⟩ (fun k hk=>by simp [hk]) (fun k hk=>rfl)) hm (fun _ _ e=>e.elim) hM cs vs hrep
  · intro M hM
    simp only [Rep]
    exact⟨_,_,cs,rfl,by rw [aa_,if_pos rfl],by simp⟩
 ·refine hk _ _ ⟨⟨g.blk,fun k=>if k=id then .slice (some ⟨w.heap.size,0,none⟩) len len else g.row k⟩,hs.set1 (g':=⟨g.blk,fun k=>if k=id then .slice (some ⟨w.heap.size,0,none⟩) len len else g.row k⟩) id (.row T n len cs) (fun _=>hid) hm' (fun k hk=>rfl) (fun k hk=>by simp [hk]) (hgrow _ (fun k hk=>rfl) (fun k hk=>by simp [hk])) ?_ ?_ hd ?_⟩
  · intro b hb
    simp only [blkOf,aa_,if_pos,Value.ownBlock,Option.some.injEq] at hb
    subst hb
    exact⟨by simp,fun h=>by omega⟩
  · intro M hM
    refine⟨vs,?_,RepL.step (G:=some _) (G':=some _) (hgrow ⟨g.blk,fun k=>if k=id then .slice (some ⟨w.heap.size,0,none⟩) len len else g.row k⟩ (fun k hk=>rfl) (fun k hk=>by simp [hk])) hm (fun _ _ e=>e.elim) hM cs vs hrep⟩
    simp only [if_pos]
    exact⟨hl1,.inr ⟨w.heap.size,0,len,vs.toArray,(0,0),rfl,newBlock,.inl rfl,Nat.le_refl _,hl2,by simp [hl1],by rw [← hl1];simp⟩⟩
  · intro M hM
    simp only [Rep]
    exact⟨_,_,rfl,.inr ⟨T,n,len,cs,by rw [aa_,if_pos rfl],Nat.le_refl _,fun _=>by simp⟩,_,_,rfl⟩
theorem T.alloc {z:Value} (id:Nat) (t:TypeId) (hz:zeroT P t=some z) (hid:newId N id=true:=by first|exact rfl|decide +kernel):Tri P N ⟨dst,.alloc t,ty,pos,af,gd⟩ [] [(id,none)] (.ref id 0) [(id,some (.box (flats z.cells)))]:=
 Tri.make hid fun M w G ρ hv=>⟨_,z.cells.toList,t,by simp only [execOp,Instr.alloc,Sem.run_bind,d9_ hz,Result.andThen_ok,newVar,newRow,em_,Sem.run_pure,Array.toArray_toList],.inl ⟨_,rfl,rfl,rfl,id_ _,mo_ _⟩⟩
theorem T.box {d:D} {ds:List D} (id:Nat) (t:TypeId) (x:Operand) (hc:cellsD d=some ds) (hid:newId N id=true:=by first|exact rfl|decide +kernel) (hk:keysOf ds=none:=by first|rfl|assumption):Tri P N ⟨dst,.box t x,ty,pos,af,gd⟩ [(x,d)] [(id,none)] (.ref id 0) [(id,some (.box ds))]:=
 Tri.make hid fun M w G ρ hv=>by
  obtain⟨vs,h1,h2⟩:=fg_ hc hv.1
  have h1':(ρ x).cells=vs.toArray:=h1
  exact⟨.pointer (some ⟨w.heap.size,0,none⟩),vs,t,by simp only [execOp,Instr.box,Sem.run_bind,newVar,newRow,h1',em_,Result.andThen_ok,Sem.run_pure],.inl ⟨_,rfl,rfl,rfl,h2,hk⟩⟩
end
end Go.Dm
