/- A machine over data: loops over functions. No condition. -/
import Derived.Test.YtichhfbkhnimmaaUIf
import Derived.ChangeKeysEq
set_option linter.unusedSimpArgs false
set_option linter.unusedVariables false
set_option linter.unusedSectionVars false
set_option maxHeartbeats 800000
namespace Go.Dm
open Go Go.RowKit Go.PP
variable [GlobW]
def lrE (st:LoopState) (pend:Option Code) (ps:Array Tmp) (asg body:Code) (fs:List D):Ent:= .box (.lrec ⟨st,pend,ps,asg,body⟩::fs)
section
variable {P:Program} {N:Nat} {st st':LoopState} {pend pend':Option Code} {ps:Array Tmp} {asg body:Code} {fs:List D} {id:Nat}
theorem StG.lrec {w0:World} {M0:Nat→Prop} {B0:Bd} {g:Gh} {s:DS} {a:Act} {w:World} (hs:StG w0 M0 B0 N g s a w) (he:lkE s.σ id=some (lrE st pend ps asg body fs)):
  ∃ (tm:List Value) (fn:FuncId) (Df:Nat),w.heap[g.blk id]?=some (.loop { state:=st,pending:=pend,fn:=fn,tmps:=tm.toArray,params:=ps,assign:=asg,body:=body,defers:=Df })∧RepL (Mx M0 g s.σ) w (some (g,s.σ)) fs tm:=by
 obtain⟨vs,o,h1,h2,h3⟩:=hs.ent id _ he
 simp only [RepL] at h2
 obtain⟨u,us,rfl,_,h4⟩:=h2
 obtain⟨fn,Df,rfl⟩:=h3
 exact⟨us,fn,Df,h1,h4⟩
theorem Hold.lrec {M0:Nat→Prop} {g:Gh} {w:World} {pe:Sg} (hs:Hold M0 w g pe) (he:lkE pe id=some (lrE st pend ps asg body fs)):
  ∃ (tm:List Value) (fn:FuncId) (Df:Nat),w.heap[g.blk id]?=some (.loop { state:=st,pending:=pend,fn:=fn,tmps:=tm.toArray,params:=ps,assign:=asg,body:=body,defers:=Df })∧RepL (Mx M0 g pe) w (some (g,pe)) fs tm:=by
 obtain⟨vs,o,h1,h2,h3⟩:=hs.ent id _ he
 simp only [RepL] at h2
 obtain⟨u,us,rfl,_,h4⟩:=h2
 obtain⟨fn,Df,rfl⟩:=h3
 exact⟨us,fn,Df,h1,h4⟩
theorem StG.turnRec {w0:World} {M0:Nat→Prop} {B0:Bd} {g:Gh} {s:DS} {a:Act} {w:World} (hs:StG w0 M0 B0 N g s a w) (he:lkE s.σ id=some (lrE st pend ps asg body fs)) {tm:List Value} {fn:FuncId} {Df:Nat}
  (hw:w.heap[g.blk id]?=some (.loop { state:=st,pending:=pend,fn:=fn,tmps:=tm.toArray,params:=ps,assign:=asg,body:=body,defers:=Df })) (hr:RepL (Mx M0 g s.σ) w (some (g,s.σ)) fs tm) (st':LoopState) (pend':Option Code):
  StG w0 M0 B0 N g ⟨s.f,(id,some (lrE st' pend' ps asg body fs))::s.σ⟩ a (w.putObj (g.blk id) (.loop { state:=st',pending:=pend',fn:=fn,tmps:=tm.toArray,params:=ps,assign:=asg,body:=body,defers:=Df })):=by
 have hbo:blkOf g s.σ id=some (g.blk id):=by unfold blkOf;rw [he];rfl
 have hc:=m2_ (o':= .loop { state:=st',pending:=pend',fn:=fn,tmps:=tm.toArray,params:=ps,assign:=asg,body:=body,defers:=Df }) hw rfl
 have hgr:Grow (g,s.σ) (g,(id,some (lrE st' pend' ps asg body fs))::s.σ):=by
  refine⟨fun k cs h=>⟨?_,rfl⟩,fun k e n len cs h=> .inr ⟨e,n,len,cs,?_,Nat.le_refl _,fun _=>rfl⟩,fun k h=>?_⟩
  ·by_cases e:id=k
   ·subst e;exact⟨_,by simp only [aa_,if_pos];rfl⟩
   ·exact⟨cs,by simp only [aa_,if_neg e];exact h⟩
  ·by_cases e':id=k
   ·subst e';simp only at h;rw [he] at h;cases h
   ·simp only [aa_,if_neg e'];exact h
  ·by_cases e':id=k
   ·subst e';simp only at h;rw [he] at h;cases h
   ·simp only [aa_,if_neg e'];exact h
 have hlt:g.blk id<w.heap.size:=(Array.getElem?_eq_some_iff.1 hw).1
 have:=hs.set1 (g':=g) id (lrE st' pend' ps asg body fs) (fun h=>by rw [he] at h;cases h) (w':=w.putObj (g.blk id) (.loop { state:=st',pending:=pend',fn:=fn,tmps:=tm.toArray,params:=ps,assign:=asg,body:=body,defers:=Df }))
  (i9_.mono (fun b _ e=>by rw [hbo,e])) (fun _ _=>rfl) (fun _ _=>rfl) hgr (fun b hb=>by
   simp only [blkOf,aa_,if_pos,lrE,Option.some.injEq] at hb
   subst hb
   exact⟨by simpa [World.putObj] using hlt,fun _=>hbo⟩)
  (fun M hM=>by
   refine⟨undef::tm,_,World.putObj_heap_same hlt,?_,fn,Df,rfl⟩
   simp only [RepL]
   exact⟨_,_,rfl,by simp only [Rep],RepL.cells hc _ _ (RepL.step (S:=fun _=>False) (G:=some _) (G':=some _) hgr (Mut.refl _ w) (fun _ _ e=>e.elim) hM _ _ hr)⟩)
  (dst:=none) rfl (d:= .any) (v:=undef) (fun M hM=>by simp only [Rep])
 exact this
def YieldC (P:Program) (id:Nat) (g:Gh) (vals:Array Value) (w:World) (R:Ending→World→Prop):Prop:=YieldAt (FW none) 0 P (g.blk id) vals w R
theorem YieldC.mono (g:Gh) (vals:Array Value) (w:World) (R R':Ending→World→Prop) (h:∀ e w',R e w'→R' e w') (hc:YieldC P id g vals w R):YieldC P id g vals w R':=by
 obtain⟨fn,tm,as',bo,h1,h2⟩:=hc
 exact⟨fn,tm,as',bo,h1,h2.mono h⟩
theorem roundFW' {r r':Option Nat} {n m l:Nat} {f:FuncId} {tmps:Array Value} {assign body:Code} {w:World} {R:Ending→World→Prop} (h:RoundIn (FW r) n P l f tmps assign body w R):RoundIn (FW r') m P l f tmps assign body w R:=
 ⟨trivial,fun c cs _=>h.2 c cs (FW.room r _)⟩
theorem tr_ {dst:Option Tmp} {ty:TypeId} {pos:String} {af:Array Edge} {gd:Option (Nat × Bool)} {l:Nat} {x:Operand} {ar:List Operand} {ts:Array TypeId} {ρ:Operand→Value} (hx:ρ x= .func (.yield l) #[] #[]) (w:World):
  (execOp ρ ⟨dst,.call { callee:= .value x,args:=ar.toArray,argTypes:=ts },ty,pos,af,gd⟩).run P w=(Instr.yield l (ar.map ρ).toArray).run P w:=by
 simp only [execOp,resolve,hx,Deferred.ofValue,Sem.run_bind,Sem.run_pure,Result.andThen_ok,invoke,List.map_toArray]
 simp
theorem T.yield [Rnd] {dst:Option Tmp} {ty:TypeId} {pos:String} {af:Array Edge} {gd:Option (Nat × Bool)} {x:Operand} {ar:List Operand} {ts:Array TypeId} {ds ds':List D} {d:D} {lp lw:Sg} (hf:LendC (YieldC P id) ds lp lw d) (hl:ar.length=ds'.length) (hp:VgL lp [] ds' ds) (hkeys:keys lp=keys lw) (hnew:(lp.all fun p=>p.2.isSome || newId N p.1)=true) (hE:EsG lp [] lp) {cs0:List D} (hid:lkE lp id=some (.box cs0)) (hfd:(fnd lp id).isSome=true):
  Tri P N ⟨dst,.call { callee:= .value x,args:=ar.toArray,argTypes:=ts },ty,pos,af,gd⟩ ((x,.yl id)::ar.zip ds') (lp++ []) d (lw++deads []):=
 Tri.lendG hf YieldC.mono hkeys hnew rfl (fun _ _=>rfl) hE fun w0 M0 B0 g s a w hs h2 hv=>by
  have h0:=hv.1
  simp only [Rep] at h0
  obtain⟨g',σ',cs,hG,h3,h4⟩:=h0
  cases hG
  have h1:=cp_ hv.2
  rw [show (ar.zip ds').map (·.2)=ds' from by rw [List.map_snd_zip (by omega)],show ((ar.zip ds').map fun p=>a.eval p.1)=ar.map a.eval from by rw [show (fun p:Operand × D=>a.eval p.1)=a.eval ∘ Prod.fst from rfl,← List.map_map,List.map_fst_zip (by omega)]] at h1
  refine⟨ar.map a.eval,VgL.rep hs h2 hp h1,fun next Q hc=>?_⟩
  obtain⟨fn,tm,as',bo,q1,q2⟩:=hc
  have hr:=tr_ (P:=P) (dst:=dst) (ty:=ty) (pos:=pos) (af:=af) (gd:=gd) (ar:=ar) (ts:=ts) h4 w
  rw [q1] at hr
  refine⟨fun f _=>trivial,?_⟩
  have e:((⟨dst,.call { callee:= .value x,args:=ar.toArray,argTypes:=ts },ty,pos,af,gd⟩:Oper).semAt (FW Rnd.r).round a.eval).run P w= .ok (.round (g.blk id) fn tm as' bo) w:=semFW hr (fun d e=>by cases e)
  rw [e]
  exact⟨fun e=>(FW.depth _ e).elim,roundFW' (q2.mono fun e w' ⟨v,p1,p2⟩=>by subst p1;exact p2)⟩
def putPs:List Tmp→List D→Fr→Fr
 |p::ps,d::ds,f=>putPs ps ds ((p,d)::f)
 |_,_,f=>f
theorem pa_ {M:Nat→Prop} {w:World} {G:Cx}:∀ (ps:List Tmp) (ds:List D) (vs:List Value) (f:Fr) (tm:Array Value),ds.length=ps.length→(∀ p∈ps,p<tm.size)→RepL M w G ds vs→(∀ t,Rep M w G (lkF f t) (tm.getD t undef))→
   (((ps.zip vs).foldl (fun tmps x=>match x with|(t,a)=>tmps.setIfInBounds t a) tm).size=tm.size)∧ ∀ t,Rep M w G (lkF (putPs ps ds f) t) (((ps.zip vs).foldl (fun tmps x=>match x with|(t,a)=>tmps.setIfInBounds t a) tm).getD t undef)
 | [],ds,vs,f,tm,_,_,_,h=>by
   cases ds with
   |nil=>exact⟨rfl,h⟩
   |cons d ds=>exact⟨rfl,h⟩
 |p::ps,[],vs,f,tm,hl,_,_,_=>by simp at hl
 | p::ps,d::ds,vs,f,tm,hl,hp,hv,h=>by
   simp only [RepL] at hv
   obtain⟨u,us,rfl,h1,h2⟩:=hv
   have hpl:=hp p (List.mem_cons_self ..)
   have:=pa_ ps ds us ((p,d)::f) (tm.setIfInBounds p u) (by simpa using hl) (fun q hq=>by simpa using hp q (List.mem_cons_of_mem _ hq)) h2 (fun t=>by
    rw [cv_]
    by_cases e:p=t
    ·subst e;rw [if_pos rfl];simp [hpl];exact h1
    ·rw [if_neg e];have:=h t;simpa [Array.getElem?_setIfInBounds,e] using this)
   simp only [List.zip_cons_cons,List.foldl_cons,putPs]
   refine⟨by rw [this.1];simp,this.2⟩
def frL (N:Nat) (f:Fr):List D:=(List.range N).map (lkF f)
theorem g3_ (N:Nat) (f:Fr):(frL N f).length=N:=by unfold frL;rw [List.length_map,List.length_range]
theorem ta_ {N:Nat} {f:Fr} {t:Nat} (h:t<N):(frL N f)[t]?=some (lkF f t):=by
 unfold frL
 rw [List.getElem?_map,List.getElem?_range h];rfl
theorem t3_ {N:Nat}:∀ {f:Fr} {t:Nat},(f.all fun p=>decide (p.1<N))=true→N≤t→lkF f t= .any
 | [],_,_,_=>rfl
 |(k,d)::r,t,h,ht=>by
  simp only [List.all_cons,Bool.and_eq_true,decide_eq_true_eq] at h
  rw [cv_,if_neg (by omega)]
  exact t3_ h.2 ht
def endJump:Exit→Option (Option Code)
 | .normal=>some none
 | .ret=>some (some .ret)
 | .exit id=>some (some (.exit id))
 | .goto l=>some (some (.goto l))
 |_=>none
theorem YieldC.enter {K:Nat} {f0:Fr} {args:List D} {pe0 we0:Sg} {f1:Fr} {σ1:Sg} {jump:Option Code} (hK:K % 512=N) (hf0:(f0.all fun p=>decide (p.1<N))=true) (hps:args.length=ps.size) (hpl:(ps.toList.all fun p=>decide (p<N))=true)
  (hold:(((id,some (lrE .ready none ps asg body (frL N f0)))::pe0).all fun p=>p.2.isNone || !newId K p.1)=true) (hgk:GrowK ((id,some (lrE (if jump.isNone then .ready else .done) jump ps asg body (frL N f0)))::we0) ((id,some (lrE .ready none ps asg body (frL N f0)))::pe0))
  (h1:∀ r:Rnd,@DW _ r P K asg ⟨putPs ps.toList args f0,(id,some (lrE .ready none ps asg body (frL N f0)))::pe0⟩ (fun e s=>e= .normal∧Sub K s ⟨f1,σ1⟩)) (hl1:lkE σ1 id=some (lrE .ready none ps asg body (frL N f0)))
  (h2:∀ r:Rnd,@DW _ r P K body ⟨f1,(id,some (lrE .busy none ps asg body (frL N f0)))::σ1⟩ (fun e s=>endJump e=some jump∧EsOk s.σ ((id,some (lrE .busy none ps asg body (frL N f0)))::we0) ((id,some (lrE .busy none ps asg body (frL N f0)))::we0))):
  LendC (YieldC P id) args ((id,some (lrE .ready none ps asg body (frL N f0)))::pe0) ((id,some (lrE (if jump.isNone then .ready else .done) jump ps asg body (frL N f0)))::we0) (.flat (.bool jump.isNone)):=by
 intro M0 g w vals hM hh hv hgl
 have hl:=hv.length
 obtain⟨tm,fn,Df,q1,q2⟩:=hh.lrec (id:=id) (by rw [aa_,if_pos rfl])
 have htm:tm.length=N:=by rw [← q2.length];exact g3_ N f0
 have hy:=run_yield (P:=P) (args:=vals.toArray) q1 (by simp;omega)
 simp only at hy
 have htl:∀ p∈ps.toList,p<tm.toArray.size:=fun p hp=>by have:=List.all_eq_true.1 hpl p hp;rw [decide_eq_true_eq] at this;simpa [htm] using this
 obtain⟨z1,z2⟩:=pa_ ps.toList args vals f0 tm.toArray (by simpa using hps) htl hv (fun t=>by
  rcases Nat.lt_or_ge t N with ht|ht
  ·obtain⟨u,hu,hr⟩:=q2.get t (ta_ (f:=f0) ht)
   have:tm.toArray.getD t undef=u:=by rw [Array.getD_eq_getD_getElem?];simp [hu]
   rw [this];exact hr
  ·rw [t3_ hf0 ht];simp only [Rep])
 have ez:(Array.foldl (fun tmps x=>match x with|(t,a)=>tmps.setIfInBounds t a) tm.toArray (ps.zip vals.toArray))=(ps.toList.zip vals).foldl (fun tmps x=>match x with|(t,a)=>tmps.setIfInBounds t a) tm.toArray:=by
  rw [← Array.foldl_toList,Array.toList_zip]
 rw [ez] at hy
 refine⟨_,_,_,_,hy,roundIn_of_wpIn trivial ?_⟩
 have hst:StG w M0 (lendBd g ((id,some (lrE .ready none ps asg body (frL N f0)))::pe0)) K g ⟨putPs ps.toList args f0,(id,some (lrE .ready none ps asg body (frL N f0)))::pe0⟩ { tmps:=(ps.toList.zip vals).foldl (fun tmps x=>match x with|(t,a)=>tmps.setIfInBounds t a) tm.toArray,defers:=[] } w:=
  ⟨Mut.refl _ w,hM,Dfs.nil rfl,by rw [z1,hK];simpa using htm,z2,hh.ent,hh.sep,fun k b q=>⟨(hh.new k b q).1,fun _=>⟨k,q⟩,(hh.new k b q).2⟩,fun k=>⟨fun cs q=> .inr rfl,fun e n len cs q=> .inr ⟨e,n,len,cs,q,Nat.le_refl _,fun _=>rfl⟩⟩,hgl⟩
 have old:∀ k x,lkE ((id,some (lrE .ready none ps asg body (frL N f0)))::pe0) k=some x→newId K k=false:=fun k x hx=>rw_ hold hx
 letI R:Rnd:=⟨some (g.blk id)⟩
 refine wpIn_mono ((h1 R).go w M0 _ _ w ⟨_,hst⟩) fun e a1 w1 ⟨s1,⟨he,hsub⟩,hs1⟩=>?_
 subst he
 obtain⟨g1,hs1⟩:=hsub _ _ _ _ _ hs1
 obtain⟨tm1,fn1,Df1,p1,p2⟩:=hs1.lrec hl1
 have hg1:g1.blk id=g.blk id:=by
  rcases (hs1.anc id).1 _ hl1 with u|u
  ·rw [old id _ (by rw [aa_,if_pos rfl])] at u;cases u
  ·exact u
 have hs2:=hs1.turnRec hl1 p1 p2 .busy none
 rw [hg1] at p1 hs2
 refine⟨_,run_beginRound p1 rfl,?_⟩
 refine wpIn_mono ((h2 R).go w M0 _ _ _ ⟨_,hs2⟩) fun e a2 w2 ⟨s2,⟨hj,hes⟩,⟨g2,hs3⟩⟩=>?_
 have hs4:=p9_ (f':=[]) hes trivial hs3
 obtain⟨tm2,fn2,Df2,r1,r2⟩:=hs4.lrec (id:=id) (st:= .busy) (pend:=none) (ps:=ps) (asg:=asg) (body:=body) (fs:=frL N f0) (by rw [aa_,if_pos rfl])
 have hg2:g2.blk id=g.blk id:=by
  rcases (hs4.anc id).1 _ (show lkE ((id,some (lrE .busy none ps asg body (frL N f0)))::we0) id=_ by rw [aa_,if_pos rfl];rfl) with u|u
  ·rw [old id _ (by rw [aa_,if_pos rfl])] at u;cases u
  ·exact u
 have hs5:=hs4.turnRec (by rw [aa_,if_pos rfl]) r1 r2 (if jump.isNone then .ready else .done) jump
 rw [hg2] at r1 hs5
 have hs5':St w M0 (lendBd g ((id,some (lrE .ready none ps asg body (frL N f0)))::pe0)) K ⟨[],(id,some (lrE (if jump.isNone then .ready else .done) jump ps asg body (frL N f0)))::(id,some (lrE .busy none ps asg body (frL N f0)))::we0⟩ a2 _:=⟨g2,hs5⟩
 obtain⟨g6,hs6⟩:=St.congr (s:=⟨[],(id,some (lrE (if jump.isNone then .ready else .done) jump ps asg body (frL N f0)))::(id,some (lrE .busy none ps asg body (frL N f0)))::we0⟩) (s':=⟨[],(id,some (lrE (if jump.isNone then .ready else .done) jump ps asg body (frL N f0)))::we0⟩) (fun t=>rfl) (fun t=>by
  rw [aa_,aa_,aa_]
  by_cases e:id=t
  ·rw [if_pos e,if_pos e]
  ·rw [if_neg e,if_neg e,if_neg e]) hs5'
 have hend:=run_endRound (P:=P) jump r1
 have hfin:LendPost M0 w g ((id,some (lrE .ready none ps asg body (frL N f0)))::pe0) ((id,some (lrE (if jump.isNone then .ready else .done) jump ps asg body (frL N f0)))::we0) (.flat (.bool jump.isNone)) (.returned (.bool jump.isNone)) _:=mz_ old hgk hs6 (by simp only [Rep])
 cases e with
 |normal=>cases hj;exact⟨_,_,hend,hfin⟩
 |ret=>cases hj;exact⟨_,_,hend,hfin⟩
 |exit k=>cases hj;exact⟨_,_,hend,hfin⟩
 |goto k=>cases hj;exact⟨_,_,hend,hfin⟩
 |panic c=>cases hj
 |outgrown=>cases hj
def FVs (σ σ':Sg):Fr→Prop
 | []=>True
 |(_,d)::r=>Vs σ σ' d d∧FVs σ σ' r
theorem FVs.at {σ σ':Sg}:∀ {f:Fr},FVs σ σ' f→ ∀ t,Vs σ σ' (lkF f t) (lkF f t)
 | [],_,t=>Vs.any _
 |(k,d)::r,h,t=>by
  rw [cv_]
  by_cases e:k=t
  ·rw [if_pos e];exact h.1
  ·rw [if_neg e];exact FVs.at h.2 t
def FVl (pe:Sg):Fr→Prop
 | []=>True
 |(_,d)::r=>Vl pe d d∧FVl pe r
theorem Vl.any' {pe:Sg} (d:D):Vl pe d .any:=fun _ _ _ _ _ _ _ _=>by simp only [Rep]
theorem FVl.at {pe:Sg}:∀ {f:Fr},FVl pe f→ ∀ t,Vl pe (lkF f t) (lkF f t)
 | [],_,t=>Vl.any' _
 |(k,d)::r,h,t=>by
  rw [cv_]
  by_cases e:k=t
  ·rw [if_pos e];exact h.1
  ·rw [if_neg e];exact FVl.at h.2 t
theorem Vl.yl {pe:Sg} {id:Nat} {cs:List D} (hm:fnd pe id=some (some (.box cs))):Vl pe (.yl id) (.yl id):=fun M w g σ he _ v hv=>by
 simp only [Rep] at hv ⊢
 obtain⟨g',σ1,cs1,hG,h1,h2⟩:=hv
 cases hG
 exact⟨g,pe,cs,rfl,gr_ hm,h2⟩
def Aft (P:Program) (N:Nat) (jump:Option Code) (s:DS) (Q:Exit→DS→Prop):Prop:=match jump with
 |none=>Q .normal s
 |some c=>DW P N c s Q
theorem DW.rangeFunc {f0:Fr} {x:Operand} {gf:FuncId} {cap cap':List D} {lp lw:Sg} {jump:Option Code} {d:D} {s:DS} {Q:Exit→DS→Prop} (he:Enters P gf)
    (hf:DLend P gf (.yl id::cap') ((id,some (lrE .ready none ps asg body (frL N f0)))::lp) ((id,some (lrE (if jump.isNone then .ready else .done) jump ps asg body (frL N f0)))::lw) d)
    (hx:evalD s.f x= .clo (.func gf) [] cap) (hid:lkE s.σ id=none) (hidn:newId N id=true) (hlp:Ens s.σ lp) (hlk:(fnd lp id).isSome=false) (hkeys:keys lp=keys lw) (hnew:(lp.all fun p=>p.2.isSome || newId N p.1)=true)
    (hf0:FsOk s.σ s.σ s.f f0) (hcap:VgL ((id,some (lrE .ready none ps asg body (frL N f0)))::lp) [] cap cap') (hE:EsG ((id,some (lrE .ready none ps asg body (frL N f0)))::lp) [] ((id,some (lrE .ready none ps asg body (frL N f0)))::lp))
    (hN:N<512) (hq:Aft P N jump ⟨s.f,(id,some (lrE .exhausted jump ps asg body (frL N f0)))::((((id,some (lrE (if jump.isNone then .ready else .done) jump ps asg body (frL N f0)))::lw)++deads [])++((id,some (lrE .ready none ps asg body (frL N f0)))::s.σ))⟩ Q):
    DW P N (.rangeFunc x ps asg body) s Q:=by
  refine⟨fun w0 M0 B0 a w ⟨g,hs⟩=>wpIn_rangeFunc fun fn _=>?_⟩
  obtain⟨W1,hW1⟩:∃ W1,(w.alloc (.deferred (some []))).alloc (.loop { state:= .ready,pending:=none,fn:=fn,tmps:=a.tmps,params:=ps,assign:=asg,body:=body,defers:=w.heap.size })=W1:=⟨_,rfl⟩
  have hL1:W1.heap[w.heap.size+1]?=some (.loop { state:= .ready,pending:=none,fn:=fn,tmps:=a.tmps,params:=ps,assign:=asg,body:=body,defers:=w.heap.size }):=by
    rw [← hW1];have:=World.alloc_heap_new (w.alloc (.deferred (some []))) (.loop { state:= .ready,pending:=none,fn:=fn,tmps:=a.tmps,params:=ps,assign:=asg,body:=body,defers:=w.heap.size });rwa [World.size_alloc] at this
  have hK1:W1.heap[w.heap.size]?=some (.deferred (some [])):=by
    rw [← hW1];exact (Below.heap_alloc _ _ _ (by simp)).trans (World.alloc_heap_new w _)
  have hfx:Fix w W1:=by rw [← hW1];exact ((Mut.refl _ w).alloc _).alloc _
  have hsz:W1.heap.size=w.heap.size+2:=by rw [← hW1];simp
  obtain⟨g1,hg1⟩:∃ g1:Gh,g1=⟨fun k=>if k=id then w.heap.size+1 else g.blk k,g.row⟩:=⟨_,rfl⟩
  have hg1b:∀ k,k≠id→g1.blk k=g.blk k:=fun k hk=>by rw [hg1];simp [hk]
  have hg1i:g1.blk id=w.heap.size+1:=by rw [hg1];simp
  have hg1r:∀ k,g1.row k=g.row k:=fun k=>by rw [hg1]
  have hgrow:Grow (g,s.σ) (g1,(id,some (lrE .ready none ps asg body (frL N f0)))::s.σ):=
    ⟨fun k cs hc=>by
      have hne:k≠id:=fun e=>by subst e;simp only at hc;rw [hid] at hc;cases hc
      exact⟨⟨cs,by rw [aa_,if_neg (fun e=>hne e.symm)];exact hc⟩,hg1b k hne⟩,
     fun k e n len cs hc=>by
      have hne:k≠id:=fun e=>by subst e;simp only at hc;rw [hid] at hc;cases hc
      exact .inr ⟨e,n,len,cs,by rw [aa_,if_neg (fun e=>hne e.symm)];exact hc,Nat.le_refl _,fun _=>hg1r k⟩,
     fun k hc=>by
      have hne:k≠id:=fun e=>by subst e;simp only at hc;rw [hid] at hc;cases hc
      simp only at hc ⊢
      rw [aa_,if_neg (fun e=>hne e.symm)];exact hc⟩
  have hs1:StG w0 M0 B0 N g1 ⟨s.f,(id,some (lrE .ready none ps asg body (frL N f0)))::s.σ⟩ a W1:=by
    refine hs.set1 (g':=g1) id (lrE .ready none ps asg body (frL N f0)) (fun _=>hidn) (hfx.mono (fun _ _ e=>e.elim)) hg1b (fun k _=>hg1r k) hgrow ?_ ?_ (dst:=none) rfl (d:= .any) (v:=undef) (fun M hM=>by simp only [Rep])
    · intro b hb
      simp only [blkOf,aa_,if_pos,lrE,Option.some.injEq] at hb
      rw [hg1i] at hb
      subst hb
      exact⟨by omega,fun h=>by omega⟩
    · intro M hM
      refine⟨undef::a.tmps.toList,_,by rw [hg1i];exact hL1,?_,fn,w.heap.size,rfl⟩
      simp only [RepL]
      refine⟨_,_,rfl,by simp only [Rep],RepL.of (by rw [g3_];simp [hs.sz,Nat.mod_eq_of_lt hN]) (fun i d u hd hu=>?_)⟩
      have hi:i<N:=by have:=(List.getElem?_eq_some_iff.1 hd).1;rwa [g3_] at this
      rw [ta_ hi] at hd
      cases hd
      have h1:=hf0.at i _ _ _ _ _ _ _ _ hs (fun _ _ h=>h) _ (hs.tm i)
      have h2:a.tmps.getD i undef=u:=by rw [Array.getD_eq_getD_getElem?];rw [Array.getElem?_toList] at hu;rw [hu];rfl
      rw [h2] at h1
      exact h1.step (S:=fun _=>False) (G:=some _) (G':=some _) hgrow hfx (fun _ _ e=>e.elim) hM
  have hx1:=hs1.eval x
  rw [show evalD (⟨s.f,(id,some (lrE .ready none ps asg body (frL N f0)))::s.σ⟩:DS).f x= .clo (.func gf) [] cap from hx] at hx1
  simp only [Rep] at hx1
  obtain⟨vs,us,hxe,hvs,hus⟩:=hx1
  simp only [RepL] at hvs
  subst hvs
  have hEn:Ens ((id,some (lrE .ready none ps asg body (frL N f0)))::s.σ) (((id,some (lrE .ready none ps asg body (frL N f0)))::lp)++ []):=by
    rw [List.append_nil]
    refine⟨by rw [aa_,if_pos rfl],Ens.of fun p hp=>?_⟩
    have hne:id≠p.1:=fun e=>by
      obtain⟨y,hy⟩:=gu_ (gn_ hp)
      rw [← e] at hy
      rw [hy] at hlk
      cases hlk
    rw [aa_,if_neg hne]
    exact hlp.mem p hp
  have hargs:RepL (Mx (Xl M0 g1 ((id,some (lrE .ready none ps asg body (frL N f0)))::s.σ) ((id,some (lrE .ready none ps asg body (frL N f0)))::lp) []) g1 ((id,some (lrE .ready none ps asg body (frL N f0)))::lp)) W1 (some (g1,(id,some (lrE .ready none ps asg body (frL N f0)))::lp)) (.yl id::cap') (.func (.yield (w.heap.size+1)) #[] #[]::us):=by
    simp only [RepL,Rep]
    exact⟨_,_,rfl,⟨g1,_,_,rfl,by rw [aa_,if_pos rfl];rfl,by rw [hg1i]⟩,VgL.rep hs1 hEn hcap hus⟩
  have hcore:=mn_ (N:=N) hf.lendC (fun g vals w R R' h hc=>hc.mono h) (by simp only [keys,hkeys]) (by simp only [List.all_cons,Option.isSome_some,Bool.true_or,Bool.true_and];exact hnew) rfl (fun _ _=>rfl) hE hs1 hEn (dst:=none) rfl hargs
  refine⟨w.heap.size+1,[{ target:= .collected w.heap.size,args:= #[] }],W1,{ target:= .fn (.func gf) us.toArray,args:= #[.func (.yield (w.heap.size+1)) #[] #[]] },W1,gf,(.func (.yield (w.heap.size+1)) #[] #[]::us).toArray,W1,?_,?_,fun _ _=>trivial,?_,fun e=>(FW.depth _ e).elim,callsFW.2 (hcore.mono ?_)⟩
  ·rw [← hW1];exact run_enterLoop_outer _ _ _ _ _
  · simp only [resolve,hxe]
    simp [go_sem,Act.eval]
  · have:=he (.func (.yield (w.heap.size+1)) #[] #[]::us).toArray W1
    simp only [invoke]
    simpa using this
  · rintro e w' ⟨v,g2,rfl,hs2,hgr,hm,hown⟩
    have hl2:lkE ((((id,some (lrE (if jump.isNone then .ready else .done) jump ps asg body (frL N f0)))::lw)++deads [])++((id,some (lrE .ready none ps asg body (frL N f0)))::s.σ)) id=some (lrE (if jump.isNone then .ready else .done) jump ps asg body (frL N f0)):=by
      simp only [List.cons_append,aa_,if_pos]
    obtain⟨tm,fn2,Df,r1,r2⟩:=hs2.lrec hl2
    have hg2:g2.blk id=w.heap.size+1:=((hgr.box id _ (by simp only;rw [aa_,if_pos rfl];rfl)).2).trans hg1i
    have hs3:=hs2.turnRec hl2 r1 r2 .exhausted jump
    rw [hg2] at r1 hs3
    have hend:=run_endLoop (P:=P) r1 (by cases jump <;> simp)
    obtain⟨Ds,k1,k2,k3⟩:=hs.df
    have hD:∀ D∈w.heap.size::Ds,W1.heap[D]?=some (.deferred (some []))∧w0.heap.size≤D∧ ∀ k,blkOf g1 ((id,some (lrE .ready none ps asg body (frL N f0)))::s.σ) k≠some D:=fun D hD=>by
      have hold:∀ k b,blkOf g1 ((id,some (lrE .ready none ps asg body (frL N f0)))::s.σ) k=some b→b=w.heap.size+1∨blkOf g s.σ k=some b:=fun k b hb=>by
        by_cases e:id=k
        · subst e
          simp only [blkOf,aa_,if_pos,lrE,Option.some.injEq] at hb
          exact .inl (by rw [← hb,hg1i])
        · right
          unfold blkOf at hb ⊢
          rw [aa_,if_neg e,hg1b k (fun e'=>e e'.symm),hg1r k] at hb
          exact hb
      rcases List.mem_cons.1 hD with rfl|hD
      · refine⟨hK1,hs.chg.size,fun k hk=>?_⟩
        rcases hold k _ hk with h|h
        ·omega
        ·have:=(hs.new k _ h).1;omega
      · obtain⟨⟨p1,p2⟩,p3⟩:=k3 D hD
        have hlt:D<w.heap.size:=(Array.getElem?_eq_some_iff.1 p1).1
        refine⟨hfx.heap p1 (fun h=>h),p2,fun k hk=>?_⟩
        rcases hold k _ hk with h|h
        ·omega
        ·exact p3 k h
    have hDs:(w.heap.size::Ds).Nodup:=List.nodup_cons.2 ⟨fun h=>by
      have:=(Array.getElem?_eq_some_iff.1 (k3 _ h).1.1).1
      omega,k2⟩
    have hs4 : StG w0 M0 B0 N g2 ⟨s.f,(id,some (lrE .exhausted jump ps asg body (frL N f0)))::((((id,some (lrE (if jump.isNone then .ready else .done) jump ps asg body (frL N f0)))::lw)++deads [])++((id,some (lrE .ready none ps asg body (frL N f0)))::s.σ))⟩ { tmps:=a.tmps,defers:=[{ target:= .collected w.heap.size,args:= #[] }]++a.defers } _:=
      ⟨hs3.chg,hs3.m0,⟨w.heap.size::Ds,by rw [k1];rfl,hDs,fun D hD'=>by
        obtain⟨p1,p2,p3⟩:=hD D hD'
        have hne:D≠w.heap.size+1:=fun e=>by subst e;rw [hL1] at p1;cases p1
        refine⟨⟨?_,p2⟩,fun k hk=>?_⟩
        · rw [World.putObj_heap_other hne]
          exact hm.heap p1 (fun ⟨k,hk⟩=>p3 k hk)
        · have hk2:blkOf g2 ((((id,some (lrE (if jump.isNone then .ready else .done) jump ps asg body (frL N f0)))::lw)++deads [])++((id,some (lrE .ready none ps asg body (frL N f0)))::s.σ)) k=some D∨D=w.heap.size+1:=by
            by_cases e:id=k
            · subst e
              simp only [blkOf,aa_,if_pos,lrE,Option.some.injEq] at hk
              exact .inr (by rw [← hk,hg2])
            · left
              unfold blkOf at hk ⊢
              rw [aa_,if_neg e] at hk
              exact hk
          rcases hk2 with hk2|hk2
          · obtain⟨k',hk'⟩:=hown k D hk2 (by have:=(Array.getElem?_eq_some_iff.1 p1).1;exact this)
            exact p3 k' hk'
          ·exact hne hk2⟩,hs3.sz,hs3.tm,hs3.ent,hs3.sep,hs3.new,hs3.anc,hs3.glo⟩
    refine⟨jump,_,hend,?_⟩
    cases jump with
    |none=>exact⟨_,hq,g2,hs4⟩
    |some c=>exact DW.go hq w0 M0 B0 _ _ ⟨g2,hs4⟩
end
end Go.Dm
set_option maxHeartbeats 400000
namespace Go.Dm
open Go Go.RowKit Go.PP
variable [GlobW] [Rnd]
theorem bi_ {cs:List D} {off:Nat} {d:D} (h:off<cs.length):spliceD cs off [d]=cs.set off d:=by
 unfold spliceD
 rw [List.set_eq_take_append_cons_drop,if_pos h]
 simp
class TyAn (P:Program) (t:TypeId) (n:outParam Nat) (k:outParam IntKind):Prop where
 h:∃ e,P.underlying t=some (.array n e)∧P.underlying e=some (.int k)∧P.cellsOf e=1∧sizeOfT P e=some 1∧(P.info? e).isSome=true
 g:P.eqGuardType P.depth t=false
theorem TyAn.i {P:Program} {t:TypeId} {n:Nat} {k:IntKind} [h:TyAn P t n k]:TyAn P t n k:=h
section
variable {P:Program} {N:Nat} {dst:Option Tmp} {ty:TypeId} {pos:String} {af:Array Edge} {gd:Option (Nat × Bool)}
theorem eu_ {e:TypeId} {k:IntKind} {n:Nat} {f:Nat→Int} (he:P.underlying e=some (.int k)) {i:Nat} (hi:i<n) (w:World):(part e ((List.range n).map fun i=>Value.int k (f i)).toArray i).run P w= .ok (.int k (f i)) w:=by
 have ag:aggOf P e=some false:=by unfold aggOf;rw [he];rfl
 simp only [part,Sem.run_bind,e8_ ag,Result.andThen_ok,Bool.false_eq_true,if_false]
 have:((List.range n).map fun i=>Value.int k (f i)).toArray[i]?=some (.int k (f i)):=by simp [hi]
 rw [this]
 simp only [Sem.run_pure]
end
theorem jl_ {w:Nat} {a:Nat} (h:a<2 ^ w):(BitVec.ofInt w (a:Int)).toNat=a:=by
 rw [BitVec.toNat_ofInt]
 have:((a:Int) % ((2 ^ w:Nat):Int))=a:=Int.emod_eq_of_lt (by omega) (by exact_mod_cast h)
 rw [this];rfl
theorem yl_ {k:IntKind} (hk:k.signed=false) {a b:Nat} (ha:a<2 ^ k.bits) (hb:b<2 ^ k.bits):k.wrap ((BitVec.ofInt k.bits (a:Int) &&& BitVec.ofInt k.bits (b:Int)).toNat)=((a &&& b:Nat):Int):=by
 rw [vd_ k hk,BitVec.toNat_and,jl_ ha,jl_ hb]
theorem r2_ {a b:Nat} (ha:a<18446744073709551616) (hb:b<18446744073709551616):IntKind.u64.wrap ((BitVec.ofInt IntKind.u64.bits (a:Int) &&& BitVec.ofInt IntKind.u64.bits (b:Int)).toNat)=((a &&& b:Nat):Int):=yl_ rfl ha hb
theorem v4_ {a b:Nat} (ha:a<18446744073709551616) (hb:b<18446744073709551616):IntKind.u64.wrap ((BitVec.ofInt IntKind.u64.bits (a:Int) &&& BitVec.ofInt IntKind.u64.bits (@OfNat.ofNat Int b (@instOfNat b))).toNat)=((a &&& b:Nat):Int):=r2_ ha hb
class SplD (cs:List D) (off:Nat) (ds:List D) (out:outParam (List D)):Prop where
 h:spliceD cs off ds=out
instance (priority:=10) {cs:List D} {off:Nat} {ds:List D}:SplD cs off ds (spliceD cs off ds):=⟨rfl⟩
class PersD (d:D):Prop where
 h:Dm.pers d=true
class PersL (cs:List D):Prop where
 h:persL cs=true
instance {v:Value}:PersD (.flat v):=⟨by simp only [Dm.pers]⟩
instance {cs:List D} [h:PersL cs]:PersD (.agg cs):=⟨by simp only [Dm.pers];exact h.h⟩
instance:PersL []:=⟨rfl⟩
instance {d:D} {cs:List D} [h1:PersD d] [h2:PersL cs]:PersL (d::cs):=⟨by simp only [persL,h1.h,h2.h,Bool.and_self]⟩
section
variable {P:Program} {N:Nat} {dst:Option Tmp} {ty:TypeId} {pos:String} {af:Array Edge} {gd:Option (Nat × Bool)}
theorem T.storeRefS {id off n:Nat} {cs ds out:List D} {d:D} (t:TypeId) (x y:Operand) (hs:SplD cs off ds out) (hn:sizeOfT P t=some n) (hc:cellsD d=some ds) (hl:ds.length=n) (ho:oneL ds=true) (hle:off+n≤cs.length) (hk0:keysOf cs=none:=by first|rfl|assumption):
  Tri P N ⟨dst,.store t x y,ty,pos,af,gd⟩ [(x,.ref id off),(y,d)] [(id,some (.box cs))] (.flat undef) [(id,some (.box out))]:=by
 obtain⟨rfl⟩:=hs
 exact T.storeRef t x y hn hc hl ho hle hk0
end
end Go.Dm
