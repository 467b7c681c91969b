/- A machine over data: stores, made and cut slices, calls, results. No condition. -/
import Derived.Test.YtichhfbkhnimmaaUG
import Derived.Deep.OwnRows
set_option linter.unusedSimpArgs false
set_option linter.unusedVariables false
set_option linter.unusedSectionVars false
set_option maxHeartbeats 400000
namespace Go.Dm
open Go Go.RowKit Go.PP
variable [GlobW] [Rnd]
section
variable {P:Program} {N:Nat} {dst:Option Tmp} {ty:TypeId} {pos:String} {af:Array Edge} {gd:Option (Nat × Bool)}
theorem h7_ {w:World} {b off n:Nat} {t:TypeId} {v:Value} {us vs:List Value} {T:TypeId} {fz:Nat × Nat} (hn:sizeOfT P t=some n) (hv:v.cells=us.toArray) (hl:us.length=n) (h1:∀ u∈us,u.oneCell'=true) (hb:w.heap[b]?=some (.cells vs.toArray T fz)) (hfz:fz=(0,0)∨vs.length≤fz.1) (ho:off+us.length≤vs.length):
  (Instr.storeAt t (.pointer (some ⟨b,off,none⟩)) v).run P w= .ok () (w.setCells b off us):=by
 have:=run_storeCells_cells (P:=P) b off us 0 w (fun j hj=>by simp only [World.cell?,hb];simp;omega) (fun j hj=>iw_ hb (by simpa using hfz) (by simp;omega)) h1
 simp only [Nat.add_zero] at this
 simp only [Instr.storeAt,Instr.sureAddr,storeVar,Sem.run_bind,Sem.run_pure,Result.andThen_ok,bt_ hn,hv,List.size_toArray,hl,ne_eq,not_true_eq_false,if_false,this]
theorem T.storeRef {id off n:Nat} {cs ds:List D} {d:D} (t:TypeId) (x y:Operand) (hn:sizeOfT P t=some n) (hc:cellsD d=some ds) (hl:ds.length=n) (ho:oneL ds=true) (hle:off+n≤cs.length) (hk0:keysOf cs=none:=by first|rfl|assumption):
  Tri P N ⟨dst,.store t x y,ty,pos,af,gd⟩ [(x,.ref id off),(y,d)] [(id,some (.box cs))] (.flat undef) [(id,some (.box (spliceD cs off ds)))]:=by
 refine⟨?_⟩
 intro w0 M0 B0 s a w next Q h1 h2 hd ⟨g,hs⟩ hk
 have he:=h2.1
 have hvx:=hs.eval x
 have hvy:=hs.eval y
 rw [show evalD s.f x= .ref id off from h1.1] at hvx
 rw [show evalD s.f y=d from h1.2.1] at hvy
 simp only [Rep] at hvx
 obtain⟨g',σ',cs0,hG,_,hx⟩:=hvx
 cases hG
 obtain⟨vs,T,o1,o2,o4⟩:=hs.ent id _ he
 obtain⟨T,rfl⟩:=o4.cells hk0
 obtain⟨us,u1,u2⟩:=fg_ hc hvy
 have hl1:=o2.length
 have hl2:=u2.length
 have hrun:=h7_ (P:=P) (w:=w) (b:=g.blk id) (off:=off) (v:=a.eval y) (us:=us) (vs:=vs) (T:=T) hn u1 (by omega) (RepL.one ho u2) o1 (.inl rfl) (by omega)
 have hex:(execOp a.eval ⟨dst,.store t x y,ty,pos,af,gd⟩).run P w= .ok .skip (w.setCells (g.blk id) off us):=by
  simp only [execOp,hx,Sem.run_bind,hrun,Result.andThen_ok,Sem.run_pure]
 refine iq_ hex ?_
 have hbo:blkOf g s.σ id=some (g.blk id):=by unfold blkOf;rw [he]
 have hm:Mut (fun b=>blkOf g s.σ id=some b) w (w.setCells (g.blk id) off us):=(cz_ (g.blk id) us off w).mono (fun b _ e=>by rw [e];exact hbo)
 have hS:∀ b,b<w.heap.size→blkOf g s.σ id=some b→Mx M0 g s.σ b:=fun b _ hb=> .inr ⟨id,hb⟩
 have hgr:Grow (g,s.σ) (g,(id,some (.box (spliceD cs off ds)))::s.σ):=⟨fun k c1 hk=>by
   by_cases e2:id=k
   ·subst e2;exact⟨⟨_,by rw [aa_,if_pos rfl]⟩,rfl⟩
   ·exact⟨⟨c1,by rw [aa_,if_neg e2];exact hk⟩,rfl⟩,fun k e1 n1 l1 c1 hk=>by
   by_cases e2:id=k
   ·subst e2;simp only at hk;rw [he] at hk;cases hk
   ·exact .inr ⟨e1,n1,l1,c1,by rw [aa_,if_neg e2];exact hk,Nat.le_refl _,fun _=>rfl⟩,fun k hk=>by
   have hne:¬ id=k:=fun e1=>by subst e1;simp only at hk;rw [he] at hk;cases hk
   simp only at hk ⊢
   rw [aa_,if_neg hne];exact hk⟩
 refine hk _ _ ⟨g,hs.set1 id (.box (spliceD cs off ds)) (fun h0=>by rw [he] at h0;cases h0) hm (fun _ _=>rfl) (fun _ _=>rfl) hgr (fun b hb=>?_) (fun M hM=>?_) hd (fun M hM=>by simp only [Rep])⟩
 ·simp only [blkOf,aa_,if_pos,Option.some.injEq] at hb
  subst hb
  exact⟨Nat.lt_of_lt_of_le (Array.getElem?_eq_some_iff.1 o1).1 hm.size,fun _=>hbo⟩
 ·exact⟨_,_,cm_ _ T us vs off w o1 (by omega),RepL.splice (RepL.step (G:=some _) (G':=some _) hgr hm hS hM cs vs o2) (RepL.step (G:=some _) (G':=some _) hgr hm hS hM ds us u2),ObjIs.mk (gd_ hk0 ho)⟩
theorem T.storeElp {id L off n e en:Nat} {cs ds:List D} {d:D} (t:TypeId) (x y:Operand) (hn:sizeOfT P t=some n) (hc:cellsD d=some ds) (hl:ds.length=n) (ho:oneL ds=true) (hle:off+n≤cs.length):
  Tri P N ⟨dst,.store t x y,ty,pos,af,gd⟩ [(x,.elp id L off),(y,d)] [(id,some (.row e en L cs))] (.flat undef) [(id,some (.row e en L (spliceD cs off ds)))]:=by
 refine⟨?_⟩
 intro w0 M0 B0 s a w next Q h1 h2 hd ⟨g,hs⟩ hk
 have he:=h2.1
 have hvx:=hs.eval x
 have hvy:=hs.eval y
 rw [show evalD s.f x= .elp id L off from h1.1] at hvx
 rw [show evalD s.f y=d from h1.2.1] at hvy
 simp only [Rep] at hvx
 obtain⟨g',σ',hG,h3,_⟩:=hvx
 cases hG
 simp only at he
 obtain⟨b,off0,l0,c0,h6,hx⟩:=(hc_ he h3).2 rfl
 obtain⟨vs,o1,o2⟩:=hs.ent id _ he
 obtain⟨us,u1,u2⟩:=fg_ hc hvy
 have hl1:=o2.length
 have hl2:=u2.length
 have o1':=o1
 rcases o1.2 with⟨q1,q2⟩| ⟨b',off',cap,cur,fz,q1,q3,q2,q4,q5,q6,q7⟩
 ·rw [q1] at h6;cases h6
 rw [q1] at h6
 simp only [Value.slice.injEq,Option.some.injEq,Addr.mk.injEq,and_true] at h6
 obtain⟨⟨rfl,rfl⟩, -, -⟩:=h6
 have hcl:off'+L*en≤cur.toList.length:=by simp;exact Nat.le_trans (Nat.add_le_add_left (Nat.mul_le_mul_right _ q4) _) q6
 have hvl:=o1.1
 have q3':w.heap[b']?=some (.cells cur.toList.toArray e fz):=by simpa using q3
 have hrun:=h7_ (P:=P) (w:=w) (b:=b') (off:=off'+off) (v:=a.eval y) (us:=us) (vs:=cur.toList) (T:=e) hn u1 (by omega) (RepL.one ho u2) q3' (by simpa using q2) (by omega)
 have hex:(execOp a.eval ⟨dst,.store t x y,ty,pos,af,gd⟩).run P w= .ok .skip (w.setCells b' (off'+off) us):=by
  simp only [execOp,hx,Sem.run_bind,hrun,Result.andThen_ok,Sem.run_pure]
 refine iq_ hex ?_
 have hob:(g.row id).ownBlock=some b':=by rw [q1];rfl
 have hm:Mut (fun b=>(g.row id).ownBlock=some b) w (w.setCells b' (off'+off) us):=(cz_ b' us (off'+off) w).mono (fun b _ e=>by rw [e];exact hob)
 have hS:∀ b,b<w.heap.size→(g.row id).ownBlock=some b→Mx M0 g s.σ b:=fun b _ hb=> .inr ⟨id,by unfold blkOf;rw [he];exact hb⟩
 have hgr:Grow (g,s.σ) (⟨g.blk,fun k=>if k=id then g.row id else g.row k⟩,(id,some (.row e en L (spliceD cs off ds)))::s.σ):=⟨fun k c1 hk=>by
   by_cases e2:id=k
   ·subst e2;simp only at hk;rw [he] at hk;cases hk
   ·exact⟨⟨c1,by rw [aa_,if_neg e2];exact hk⟩,rfl⟩,fun k e1 n1 l1 c1 hk=>by
   by_cases e2:id=k
   ·    subst e2
        simp only at hk
        rw [he] at hk;cases hk
        exact .inr ⟨e,en,L,_,by rw [aa_,if_pos rfl],Nat.le_refl _,fun _=>by simp⟩
   ·exact .inr ⟨e1,n1,l1,c1,by rw [aa_,if_neg e2];exact hk,Nat.le_refl _,fun _=>by simp [show ¬ k=id from fun e=>e2 e.symm]⟩,fun k hk=>by
   have hne:¬ id=k:=fun e1=>by subst e1;simp only at hk;rw [he] at hk;cases hk
   simp only at hk ⊢
   rw [aa_,if_neg hne];exact hk⟩
 refine hk _ _ ⟨_,hs.row (v':=g.row id) (vs':=spliceD vs off us) (L':=L) (cs':=spliceD cs off ds) he hm (Nat.le_refl _) (fun _=>rfl) ?_ (fun b hb _=>hb) (fun M hM=>?_) hd (fun M hM=>by simp only [Rep])⟩
 ·refine ⟨by rw [ci_ (by omega)];exact hvl,.inr ⟨b',off',cap,(spliceD cur.toList (off'+off) us).toArray,fz,q1,cm_ b' e us cur.toList (off'+off) w q3' (by omega),by simpa [ci_ (show off'+off+us.length≤cur.toList.length by omega)] using q2,q4,q5,by simpa [ci_ (show off'+off+us.length≤cur.toList.length by omega)] using q6,?_⟩⟩
  apply List.ext_getElem?
  intro k
  rw [List.toList_toArray,List.getElem?_take,List.getElem?_drop,di_ (by omega),di_ (by omega)]
  have hcv:∀ k,k<L*en→cur.toList[off'+k]?=vs[k]?:=fun k hk=>by
   rw [← q7,List.getElem?_take,if_pos hk,List.getElem?_drop]
  by_cases hk:k<L*en
  ·rw    [if_pos hk]
   by_cases h1:k<off
   ·rw [if_pos (by omega),if_pos h1,hcv k hk]
   ·    rw [if_neg (by omega),if_neg h1]
        by_cases h2:k<off+us.length
        ·rw [if_pos (by omega),if_pos h2];congr 1;omega
        ·rw [if_neg (by omega),if_neg h2,hcv k hk]
  ·rw [if_neg hk,if_neg (by omega),if_neg (by omega),List.getElem?_eq_none (by omega)]
 ·exact RepL.splice (RepL.step (G:=some _) (G':=some _) hgr hm hS hM cs vs o2) (RepL.step (G:=some _) (G':=some _) hgr hm hS hM ds us u2)
theorem T.makeSl {e n bytes:Nat} {z:Value} {kl kc:IntKind} (id:Nat) (t:TypeId) (x y:Operand) (ht:P.underlying t=some (.slice e)) (hinfo:(P.info? e).map (fun i=>(i.zero,i.size,i.bytes))=some (some z,1,bytes)) (hz1:z.cells= #[z])
  (hb:bytes*n≤281474976710656) (hn:n≤maxLen) (hid:newId N id=true:=by first|exact rfl|decide +kernel):
  Tri P N ⟨dst,.makeSlice t x y,ty,pos,af,gd⟩ [(x,.flat (.int kl n)),(y,.flat (.int kc n))] [(id,none)] (.own id n) [(id,some (.row e 1 n (List.replicate n (.flat z))))]:=
 Tri.make hid fun M w G ρ hv=>by
  have hr:=run_make_row' (P:=P) t e z bytes ht hinfo hz1 kl kc n hb (by unfold maxLen at hn;omega) w
  refine⟨_,(madeCells #[z] n).toList,e,by simp only [execOp,hv.one,hv.2.one,Sem.run_bind,hr,Result.andThen_ok,Sem.run_pure,Array.toArray_toList],.inr ⟨1,n,_,rfl,rfl,rfl,by simp [size_madeCells],hn,?_⟩⟩
  refine RepL.of (by simp [size_madeCells]) fun i d u h1 h2=>?_
  have hd:d= .flat z:=by
   rw [List.getElem?_replicate] at h1
   split at h1
   ·cases h1;rfl
   ·cases h1
  have hu:u=z:=by
   have hi:=(List.getElem?_eq_some_iff.1 h2).1
   simp [size_madeCells] at hi
   simp [madeCells,hi,Nat.mod_one] at h2
   exact h2.symm
  subst hd;subst hu
  simp only [Rep]
theorem jg_ {t e:TypeId} (ht:P.underlying t=some (.slice e)):P.elem t=e:=by simp [Program.elem,ht]
theorem k8_ {t e:TypeId} {n:Nat} {w:World} {v:Value} {lo hi:Option Value} {r:Value} (ht:P.underlying t=some (.slice e)) (h:(Instr.slice t v lo hi none).run P w= .ok r w):(Instr.sliceAt t v lo hi none).run P w= .ok r w:=by
 rw [run_sliceAt_slice (P:=P) w t v lo hi none (by rw [jg_ ht];exact ht)];exact h
def Enters (P:Program) (k:FuncId):Prop:= ∀ (args:Array Value) (w:World),(callFunc k args).run P w= .ok (.enter k args) w
theorem cp_ {M:Nat→Prop} {w:World} {G:Cx} {ρ:Operand→Value}:∀ {pf:List (Operand × D)},Vals M w G ρ pf→RepL M w G (pf.map (·.2)) (pf.map fun p=>ρ p.1)
 | [],_=>by simp [RepL]
 |p::r,h=>by simp only [List.map_cons,RepL];exact⟨_,_,rfl,h.1,cp_ h.2⟩
theorem Tri.calls {o:Oper} {k:FuncId} {pf:List (Operand × D)} {pe:Sg} {d:D} (hex:∀ (w0:World) (M0:Nat→Prop) (B0:Bd) (g:Gh) (s:DS) (a:Act) (w:World),StG w0 M0 B0 N g s a w→Ens s.σ pe→Vals (Mx M0 g s.σ) w (some (g,s.σ)) a.eval pf→
  ∃ args:Array Value,(execOp a.eval o).run P w= .ok (.enter k args) w∧Calls P k args w (fun e w'=> ∃ v,e= .returned v∧Rep (Mx M0 g s.σ) w' (some (g,s.σ)) d v∧Fix w w')):Tri P N o pf pe d []:=by
 refine⟨?_⟩
 intro w0 M0 B0 s a w next Q h1 h2 hd ⟨g,hs⟩ hk
 obtain⟨args,hr,hc⟩:=hex w0 M0 B0 g s a w hs h2 (hs.vals h1)
 refine j7_ hr ?_
 exact hc.mono fun e w' ⟨v,q1,q2,q3⟩=>by subst q1;exact hk _ _ ⟨g,hs.pure q3 hd q2⟩
theorem mw_ {k:FuncId} {ar:List Operand} {ts:Array TypeId} (he:Enters P k) (ρ:Operand→Value) (hρ:ρ (.func k)= .func (.func k) #[] #[]) (w:World):
  (execOp ρ ⟨dst,.call { callee:= .value (.func k),args:=ar.toArray,argTypes:=ts },ty,pos,af,gd⟩).run P w= .ok (.enter k (ar.map ρ).toArray) w:=by
 simp only [execOp,resolve,hρ,Deferred.ofValue,Sem.run_bind,Sem.run_pure,Result.andThen_ok,invoke,List.map_toArray]
 have:=he ((ar.map ρ).toArray) w
 simpa using this
theorem T.call {k:FuncId} {ar:List Operand} {ts:Array TypeId} {ds ds':List D} {d:D} (he:Enters P k) (hf:DFun P k ds d) (hl:ar.length=ds'.length) (hp:persL ds'=true) (hle:LeL ds' ds):
  Tri P N ⟨dst,.call { callee:= .value (.func k),args:=ar.toArray,argTypes:=ts },ty,pos,af,gd⟩ (ar.zip ds') [] d []:=Tri.calls (k:=k) fun w0 M0 B0 g s a w hs _ hv=>by
 refine⟨_,mw_ he a.eval rfl w,?_⟩
 have h1:=cp_ hv
 rw [show (ar.zip ds').map (·.2)=ds' from by rw [List.map_snd_zip (by omega)],show ((ar.zip ds').map fun p=>a.eval p.1)=ar.map a.eval from by rw [show (fun p:Operand × D=>a.eval p.1)=a.eval ∘ Prod.fst from rfl,← List.map_map,List.map_fst_zip (by omega)]] at h1
 exact (hf.go _ w _ hs.mlt (LeL.rep hs.mlt hle (RepL.down ds' _ hp h1)) hs.glw).mono fun e w' ⟨v,q1,q2,q3⟩=>⟨v,q1,q2.up,q3⟩
theorem T.callC {k:FuncId} {x:Operand} {ar:List Operand} {ts:Array TypeId} {first cap ds ds':List D} {d:D} (pe:Sg) (he:Enters P k) (hf:DFun P k ds d) (hl:ar.length=ds'.length) (hp:VwL pe (first++ds'++cap) ds) (hd:noMem d=true):
  Tri P N ⟨dst,.call { callee:= .value x,args:=ar.toArray,argTypes:=ts },ty,pos,af,gd⟩ ((x,.clo (.func k) first cap)::ar.zip ds') pe d []:=Tri.calls (k:=k) fun w0 M0 B0 g s a w hs hpe hv=>by
 have h0:=hv.1
 simp only [Rep] at h0
 obtain⟨fs,us,hx,hf1,hc1⟩:=h0
 have hrun:(execOp a.eval ⟨dst,.call { callee:= .value x,args:=ar.toArray,argTypes:=ts },ty,pos,af,gd⟩).run P w= .ok (.enter k (fs++ar.map a.eval++us).toArray) w:=by
  simp only [execOp,resolve,hx,Deferred.ofValue,Sem.run_bind,Sem.run_pure,Result.andThen_ok,invoke,List.map_toArray]
  have:=he ((fs++ar.map a.eval++us).toArray) w
  simpa using this
 refine⟨_,hrun,?_⟩
 have h1:=cp_ hv.2
 rw [show (ar.zip ds').map (·.2)=ds' from by rw [List.map_snd_zip (by omega)],show ((ar.zip ds').map fun p=>a.eval p.1)=ar.map a.eval from by rw [show (fun p:Operand × D=>a.eval p.1)=a.eval ∘ Prod.fst from rfl,← List.map_map,List.map_fst_zip (by omega)]] at h1
 exact (hf.go _ w _ (fun b hb=>hs.mlt b hb.sub) (VwL.rep hs hpe hp (RepL.append (RepL.append hf1 h1) hc1)) hs.glw).mono fun e w' ⟨v,q1,q2,q3⟩=>⟨v,q1,q2.noMem _ _ hd,q3⟩
theorem T.makeFunc {k:Fn} {fs cs:List Operand} {fd cd:List D} (hl:fs.length=fd.length) (hl2:cs.length=cd.length):
  Tri P N ⟨dst,.makeFunc k fs.toArray cs.toArray,ty,pos,af,gd⟩ (fs.zip fd++cs.zip cd) [] (.clo k fd cd) []:=Tri.val fun M w G ρ hv=>by
 have h1:=cp_ hv
 have hz:∀ {ar:List Operand} {ds:List D},ar.length=ds.length→(ar.zip ds).map (·.2)=ds∧((ar.zip ds).map fun p=>ρ p.1)=ar.map ρ:=fun {ar ds} h=>⟨by rw [List.map_snd_zip (by omega)],by rw [show (fun p:Operand × D=>ρ p.1)=ρ ∘ Prod.fst from rfl,← List.map_map,List.map_fst_zip (by omega)]⟩
 have split:∀ {pf qf:List (Operand × D)},Vals M w G ρ (pf++qf)→Vals M w G ρ pf∧Vals M w G ρ qf:=fun {pf qf} h=>by
  induction pf with
  |nil=>exact⟨trivial,h⟩
  |cons p r ih=>obtain⟨q1,q2⟩:=ih h.2;exact⟨⟨h.1,q1⟩,q2⟩
 obtain⟨s1,s2⟩:=split hv
 have v1:=cp_ s1
 have v2:=cp_ s2
 rw [(hz hl).1,(hz hl).2] at v1
 rw [(hz hl2).1,(hz hl2).2] at v2
 exact⟨.func k (fs.map ρ).toArray (cs.map ρ).toArray,by simp [execOp,Instr.makeFunc],by simp only [Rep];exact⟨_,_,rfl,v1,v2⟩⟩
theorem Vw.out {pe:Sg} {d d':D} {w0:World} {M0:Nat→Prop} {B0:Bd} {g:Gh} {s:DS} {a:Act} {w:World} (hs:StG w0 M0 B0 N g s a w) (he:Ens s.σ pe) (h:Vw pe d d') {v:Value} (hv:Rep (Mx M0 g s.σ) w (some (g,s.σ)) d v):Rep M0 w none d' v:=
 (h w0 M0 B0 N g s a w hs he v hv).mono fun b _ hb=> .inl hb
theorem ResOk.one {fn:Func} {s:DS} {t:Tmp} {d d':D} (pe:Sg) (hr:fn.results= #[.tmp t]) (hd:lkF s.f t=d) (he:Ens s.σ pe) (h:Vw pe d d'):ResOk P fn s d':=fun w0 M0 B0 N g a w hs=>
 ⟨a.tmps.getD t undef,by simp [results,hr],h.out hs he (by rw [← hd];exact hs.tm t)⟩
theorem ResOk.two {fn:Func} {s:DS} {t u:Tmp} {d d' e e':D} (pe:Sg) (hr:fn.results= #[.tmp t,.tmp u]) (hd:lkF s.f t=d) (hd2:lkF s.f u=e) (he:Ens s.σ pe) (h:Vw pe d d') (h2:Vw pe e e'):ResOk P fn s (.tup [d',e']):=fun w0 M0 B0 N g a w hs=>
 ⟨.tuple #[a.tmps.getD t undef,a.tmps.getD u undef],by simp [results,hr],by
  simp only [Rep]
  refine⟨[_,_],rfl,?_⟩
  simp only [RepL]
  exact⟨_,_,rfl,h.out hs he (by rw [← hd];exact hs.tm t),_,_,rfl,h2.out hs he (by rw [← hd2];exact hs.tm u),rfl⟩⟩
theorem fv_ {w0:World} {M0:Nat→Prop} {B0:Bd} {g:Gh} {s:DS} {a:Act} {w:World} (hs:StG w0 M0 B0 N g s a w) {id t:Nat} {bb:Bool} {n:Nat} {cs:List D} {d:D} (he:lkE s.σ id=some (.box cs)) (hb:aggOf P t=some bb) (hn:sizeOfT P t=some n) (h:partD bb n 0 cs=some d) (hk:keysOf cs=none) {v:Value} (hv:Rep (Mx M0 g s.σ) w (some (g,s.σ)) (.ref id 0) v):
  ∃ x u,(asAddr v).run P w= .ok x w∧(loadVar t x).run P w= .ok u w∧Rep (Mx M0 g s.σ) w (some (g,s.σ)) d u:=by
 simp only [Rep] at hv
 obtain⟨g',σ',cs0,hG,h2,h3⟩:=hv
 cases hG
 obtain⟨vs,T,o1,o2,o4⟩:=hs.ent id _ he
 obtain⟨T,rfl⟩:=o4.cells hk
 obtain⟨v,r1,r2⟩:=b6_ (P:=P) (b:=g.blk id) (o:=0) hb hn h (fun i u hu=>by simp only [World.cell?,o1,Nat.zero_add];simpa using hu) o2
 simp only [Instr.loadAt,Instr.sureAddr,Nat.add_zero,Sem.run_bind,Sem.run_pure,Result.andThen_ok] at r1
 exact⟨_,v,by rw [h3];simp [asAddr],r1,r2⟩
theorem ResOk.cell {fn:Func} {s:DS} {x:Tmp} {t id n:Nat} {bb:Bool} {cs:List D} {d d':D} (pe:Sg) (hr:fn.results= #[.cell x t]) (hx:lkF s.f x= .ref id 0) (hi:lkE s.σ id=some (.box cs)) (hb:aggOf P t=some bb) (hn:sizeOfT P t=some n) (hd:partD bb n 0 cs=some d) (he:Ens s.σ pe) (h:Vw pe d d') (hk:keysOf cs=none:=by first|rfl|assumption):ResOk P fn s d':=fun w0 M0 B0 N g a w hs=>by
 have h0:=hs.tm x
 rw [hx] at h0
 obtain⟨ad,u,h1,h2,h3⟩:=fv_ (P:=P) hs hi hb hn hd hk h0
 rw [Array.getD_eq_getD_getElem?] at h1
 exact⟨u,by simp [results,hr,h1,h2],h.out hs he h3⟩
theorem ResOk.cellTmp {fn:Func} {s:DS} {x u:Tmp} {t id n:Nat} {bb:Bool} {cs:List D} {d d' e e':D} (pe:Sg) (hr:fn.results= #[.cell x t,.tmp u]) (hx:lkF s.f x= .ref id 0) (hi:lkE s.σ id=some (.box cs)) (hb:aggOf P t=some bb) (hn:sizeOfT P t=some n) (hd:partD bb n 0 cs=some d) (hu:lkF s.f u=e) (he:Ens s.σ pe) (h:Vw pe d d') (h2:Vw pe e e') (hk:keysOf cs=none:=by first|rfl|assumption):ResOk P fn s (.tup [d',e']):=fun w0 M0 B0 N g a w hs=>by
 have h0:=hs.tm x
 rw [hx] at h0
 obtain⟨ad,v,h1,h4,h3⟩:=fv_ (P:=P) hs hi hb hn hd hk h0
 rw [Array.getD_eq_getD_getElem?] at h1
 refine⟨.tuple #[v,a.tmps.getD u undef],by simp [results,hr,h1,h4],?_⟩
 simp only [Rep]
 refine⟨[_,_],rfl,?_⟩
 simp only [RepL]
 exact⟨_,_,rfl,h.out hs he h3,_,_,rfl,h2.out hs he (by rw [← hu];exact hs.tm u),rfl⟩
end
end Go.Dm
namespace Go.Dm
open Go Go.RowKit Go.PP
variable [GlobW] [Rnd]
section
variable {P:Program} {N:Nat}
def Vs (σ σ':Sg) (d d':D):Prop:= ∀ (w0:World) (M0:Nat→Prop) (B0:Bd) (N:Nat) (g:Gh) (f:Fr) (a:Act) (w:World),StG w0 M0 B0 N g ⟨f,σ⟩ a w→(∀ id b,blkOf g σ' id=some b→blkOf g σ id=some b)→ ∀ v,Rep (Mx M0 g σ) w (some (g,σ)) d v→Rep (Mx M0 g σ') w (some (g,σ')) d' v
def VsL (σ σ':Sg):List D→List D→Prop
 | [],[]=>True
 |d::ds,e::es=>Vs σ σ' d e∧VsL σ σ' ds es
 |_,_=>False
variable {σ σ':Sg}
theorem Mx.of {M0:Nat→Prop} {g:Gh} (h:∀ id b,blkOf g σ' id=some b→blkOf g σ id=some b) (b:Nat) (hb:Mx M0 g σ' b):Mx M0 g σ b:=by
 rcases hb with hb| ⟨id,hb⟩
 ·exact .inl hb
 ·exact .inr ⟨id,h id b hb⟩
theorem VsL.rep {w0:World} {M0:Nat→Prop} {B0:Bd} {g:Gh} {f:Fr} {a:Act} {w:World} (hs:StG w0 M0 B0 N g ⟨f,σ⟩ a w) (hM:∀ id b,blkOf g σ' id=some b→blkOf g σ id=some b):∀ {ds es:List D} {vs:List Value},VsL σ σ' ds es→RepL (Mx M0 g σ) w (some (g,σ)) ds vs→RepL (Mx M0 g σ') w (some (g,σ')) es vs
 | [],[],vs,_,h=>by simpa only [RepL] using h
 |d::ds,e::es,vs,hl,h=>by
  simp only [RepL] at h ⊢
  obtain⟨u,us,h1,h2,h3⟩:=h
  exact⟨u,us,h1,hl.1 _ _ _ _ _ _ _ _ hs hM _ h2,VsL.rep hs hM hl.2 h3⟩
 | [],_::_,_,h,_=>h.elim
 |_::_,[],_,h,_=>h.elim
theorem Vs.any (d:D):Vs σ σ' d .any:=fun _ _ _ _ _ _ _ _ _ _ _ _=>by simp only [Rep]
theorem Vs.pers {d:D} (h:Dm.pers d=true):Vs σ σ' d d:=fun w0 M0 B0 N g f a w hs hM v hv=>(hv.down d v h).mono (fun b _ h=>Mx.of hM b h) |>.up
theorem Vs.eq {d d':D} (h:d=d') (hp:Dm.pers d'=true):Vs σ σ' d d':=by subst h;exact Vs.pers hp
theorem Vs.int {k:IntKind} {a b:Int} (h:a=b):Vs σ σ' (.flat (.int k a)) (.flat (.int k b)):=h ▸ Vs.pers rfl
theorem Vs.le {d d1 d2:D} (h:Vs σ σ' d d1) (hl:Le d1 d2):Vs σ σ' d d2:=fun w0 M0 B0 N g f a w hs hM v hv=>hl _ _ _ _ (fun b hb=>hs.mlt b (Mx.of hM b hb)) (h _ _ _ _ _ _ _ _ hs hM v hv)
theorem Vs.own {id L e n e' n':Nat} {cs cs':List D} (h:lkE σ id=some (.row e n L cs)) (h':lkE σ' id=some (.row e' n' L cs')):Vs σ σ' (.own id L) (.own id L):=fun w0 M0 B0 N g f a w hs hM v hv=>by
 simp only [Rep] at hv ⊢
 obtain⟨g',σ1,hG,h1,h4⟩:=hv
 cases hG
 exact⟨g,σ',rfl,.inr ⟨e',n',L,cs',h',Nat.le_refl _,(hc_ h h1).2⟩,h4⟩
theorem Vs.dead {id L:Nat} (h':lkE σ' id=some .dead):Vs σ σ' (.own id L) (.own id L):=fun w0 M0 B0 N g f a w hs hM v hv=>by
 simp only [Rep] at hv ⊢
 obtain⟨g',σ1,hG,h1,h4⟩:=hv
 cases hG
 exact⟨g,σ',rfl,.inl h',h4⟩
theorem Vs.ref {id off:Nat} {cs':List D} (h':lkE σ' id=some (.box cs')):Vs σ σ' (.ref id off) (.ref id off):=fun w0 M0 B0 N g f a w hs hM v hv=>by
 simp only [Rep] at hv ⊢
 obtain⟨g',σ1,cs1,hG,h1,h2⟩:=hv
 cases hG
 exact⟨g,σ',cs',rfl,h',h2⟩
theorem Vs.agg {cs cs':List D} (h:VsL σ σ' cs cs'):Vs σ σ' (.agg cs) (.agg cs'):=fun w0 M0 B0 N g f a w hs hM v hv=>by
 simp only [Rep] at hv ⊢
 obtain⟨vs,q1,q2⟩:=hv
 exact⟨vs,q1,VsL.rep hs hM h q2⟩
theorem Vs.tup {cs cs':List D} (h:VsL σ σ' cs cs'):Vs σ σ' (.tup cs) (.tup cs'):=fun w0 M0 B0 N g f a w hs hM v hv=>by
 simp only [Rep] at hv ⊢
 obtain⟨vs,q1,q2⟩:=hv
 exact⟨vs,q1,VsL.rep hs hM h q2⟩
theorem Vs.clo {fn:Fn} {cs cs' es es':List D} (h:VsL σ σ' cs cs') (h2:VsL σ σ' es es'):Vs σ σ' (.clo fn cs es) (.clo fn cs' es'):=fun w0 M0 B0 N g f a w hs hM v hv=>by
 simp only [Rep] at hv ⊢
 obtain⟨vs,us,q1,q2,q3⟩:=hv
 exact⟨vs,us,q1,VsL.rep hs hM h q2,VsL.rep hs hM h2 q3⟩
theorem VsL.pers:∀ {ds:List D},persL ds=true→VsL σ σ' ds ds
 | [],_=>trivial
 |d::ds,h=>by
  simp only [persL,Bool.and_eq_true] at h
  exact⟨Vs.pers h.1,VsL.pers h.2⟩
theorem VsL.eq {ds es:List D} (h:ds=es) (hp:persL es=true):VsL σ σ' ds es:=by subst h;exact VsL.pers hp
theorem Vs.shut {pe:Sg} {d d':D} (he:Ens σ pe) (h:Vw pe d d') (hd:∀ id∈keys pe,lkE σ' id=none):Vs σ σ' d d':=fun w0 M0 B0 N g f a w hs hM v hv=>by
 refine (Rep.mono (h w0 M0 B0 N g ⟨f,σ⟩ a w hs he v hv) fun b _ hb=>?_).up
 rcases hb with hb| ⟨id,hb⟩
 ·exact .inl hb
 ·refine .inr ⟨id,fun hk=>?_,hM id b hb⟩
  have:=hd id hk
  simp [blkOf,this] at hb
def EsOk (σ σ':Sg):Sg→Prop
 | []=>True
 |(id,e)::r=>(match e with
     |none=>True
     |some .dead=>True
     |some (.box cs')=> ∃ cs,lkE σ id=some (.box cs)∧VsL σ σ' cs cs'∧keysOf cs'=keysOf cs
     |some (.row e n L cs')=> ∃ cs,lkE σ id=some (.row e n L cs)∧VsL σ σ' cs cs')∧EsOk σ σ' r
def FsOk (σ σ':Sg) (f:Fr):Fr→Prop
 | []=>True
 |(t,d)::r=>Vs σ σ' (lkF f t) d∧FsOk σ σ' f r
theorem FsOk.at {f:Fr}:∀ {f':Fr},FsOk σ σ' f f'→ ∀ t,Vs σ σ' (lkF f t) (lkF f' t)
 | [],_,t=>Vs.any _
 |(k,d)::r,h,t=>by
  rw [cv_]
  by_cases e:k=t
  ·rw [if_pos e,← e];exact h.1
  ·rw [if_neg e];exact FsOk.at h.2 t
theorem EsOk.at:∀ {τ:Sg},EsOk σ σ' τ→ ∀ id,(∀ cs',lkE τ id=some (.box cs')→ ∃ cs,lkE σ id=some (.box cs)∧VsL σ σ' cs cs'∧keysOf cs'=keysOf cs)∧(∀ e n L cs',lkE τ id=some (.row e n L cs')→ ∃ cs,lkE σ id=some (.row e n L cs)∧VsL σ σ' cs cs')
 | [],_,id=>⟨fun cs h=>by simp [lkE] at h,fun e n L cs h=>by simp [lkE] at h⟩
 |(k,x)::r,h,id=>by
  rw [aa_]
  by_cases e:k=id
  ·rw [if_pos e]
   subst e
   have h1:=h.1
   refine⟨fun cs hc=>?_,fun e n L cs hc=>?_⟩
   ·subst hc;exact h1
   ·subst hc;exact h1
  ·rw [if_neg e];exact EsOk.at h.2 id
theorem Sub.of {f f':Fr} (h1:EsOk σ σ' σ') (h2:FsOk σ σ' f f'):Sub N ⟨f,σ⟩ ⟨f',σ'⟩:=by
 intro w0 M0 B0 a w ⟨g,hs⟩
 have hM:∀ id b,blkOf g σ' id=some b→blkOf g σ id=some b:=fun id b hb=>by
  unfold blkOf at hb
  obtain⟨q1,q2⟩:=h1.at id
  cases he:lkE σ' id with
  |none=>rw [he] at hb;cases hb
  |some e=>
   rw [he] at hb
   cases e with
   |box cs'=>obtain⟨cs,q,_⟩:=q1 cs' he;unfold blkOf;rw [q];exact hb
   |row e n L cs'=>obtain⟨cs,q,_⟩:=q2 e n L cs' he;unfold blkOf;rw [q];exact hb
   |dead=>cases hb
 refine⟨g,hs.chg,hs.m0,hs.df.step (S:=fun _=>False) (Mut.refl _ w) rfl (fun _ _ e=>e.elim) (fun id b q _=>⟨id,hM _ _ q⟩),hs.sz,fun t=>h2.at t _ _ _ _ _ _ _ _ hs hM _ (hs.tm t),fun id e he=>?_,fun id id' b q1 q2=>hs.sep id id' b (hM _ _ q1) (hM _ _ q2),fun id b q=>hs.new id b (hM _ _ q),fun id=>⟨fun cs q=>(by obtain⟨c,q3,_⟩:=(h1.at id).1 cs q;exact (hs.anc id).1 c q3),fun e n len cs q=>(by obtain⟨c,q3,_⟩:=(h1.at id).2 e n len cs q;exact (hs.anc id).2 _ _ _ _ q3)⟩,hs.glo⟩
 obtain⟨q1,q2⟩:=h1.at id
 cases e with
 |box cs'=>
  obtain⟨cs,q,hv,hko⟩:=q1 cs' he
  obtain⟨vs,T,o1,o2,o4⟩:=hs.ent id _ q
  exact⟨vs,T,o1,VsL.rep hs hM hv o2,o4.of hko⟩
 |row e n L cs'=>
  obtain⟨cs,q,hv⟩:=q2 e n L cs' he
  obtain⟨vs,o1,o2⟩:=hs.ent id _ q
  exact⟨vs,o1,VsL.rep hs hM hv o2⟩
 |dead=>trivial
theorem StG.setF {w0:World} {M0:Nat→Prop} {B0:Bd} {g:Gh} {f:Fr} {a:Act} {w:World} (h:StG w0 M0 B0 N g ⟨f,σ⟩ a w) (t:Nat) (d:D) (hd:Rep (Mx M0 g σ) w (some (g,σ)) d (a.tmps.getD t undef)):StG w0 M0 B0 N g ⟨(t,d)::f,σ⟩ a w:=
 ⟨h.chg,h.m0,h.df,h.sz,fun k=>by
  rw [cv_]
  by_cases e:t=k
  ·subst e;rw [if_pos rfl];exact hd
  ·rw [if_neg e];exact h.tm k,h.ent,h.sep,h.new,h.anc,h.glo⟩
theorem Sub.adopt {f:Fr} (t id:Nat) (e n:Nat) (ht:lkF f t= .flat (.slice none 0 0)) (hi:lkE σ id=none) (hid:newId N id=true:=by first|exact rfl|decide +kernel):Sub N ⟨f,σ⟩ ⟨(t,.own id 0)::f,(id,some (.row e n 0 []))::σ⟩:=by
 intro w0 M0 B0 a w ⟨g,hs⟩
 have hn:∀ k c,lkE σ k=some c→ ¬ id=k:=fun k c hk e=>by subst e;rw [hi] at hk;cases hk
 have hb0:blkOf g σ id=none:=by unfold blkOf;rw [hi]
 have h1:=hs.set1 (g':=⟨g.blk,fun k=>if k=id then .slice none 0 0 else g.row k⟩) (w':=w) id (.row e n 0 []) (fun _=>hid) (Mut.refl _ w) (fun _ _=>rfl) (fun k hk=>by simp [hk])
  ⟨fun k cs hk=>⟨⟨cs,by rw [aa_,if_neg (hn k _ hk)];exact hk⟩,rfl⟩,fun k e n len cs hk=> .inr ⟨e,n,len,cs,by rw [aa_,if_neg (hn k _ hk)];exact hk,Nat.le_refl _,fun _=>by simp [show ¬ k=id from fun q=>hn k _ hk q.symm]⟩,fun k hk=>by simp only at hk ⊢;rw [aa_,if_neg (hn k _ hk)];exact hk⟩
  (fun b hb=>by simp [blkOf,aa_,Value.ownBlock] at hb) (fun M hM=>⟨[],by simp only [if_pos];exact OwnR.nil _ _ _,by simp only [RepL]⟩) (dst:=none) rfl (d:= .any) (v:=undef) (fun M hM=>by simp only [Rep])
 have hv:=hs.tm t
 rw [ht] at hv
 simp only [Rep] at hv
 refine⟨_,StG.setF (a:=a) (f:=f) h1 t (.own id 0) ?_⟩
 simp only [Rep]
 exact⟨_,_,rfl,.inr ⟨e,n,0,[],by rw [aa_,if_pos rfl],Nat.le_refl _,fun _=>(by simpa using hv)⟩,none,0,hv⟩
theorem DW.adopt {Q:Exit→DS→Prop} {c:Code} {f:Fr} (t id:Nat) (e n:Nat) (ht:lkF f t= .flat (.slice none 0 0)) (hi:lkE σ id=none) (h:DW P N c ⟨(t,.own id 0)::f,(id,some (.row e n 0 []))::σ⟩ Q) (hid:newId N id=true:=by first|exact rfl|decide +kernel):DW P N c ⟨f,σ⟩ Q:=DW.sub (Sub.adopt t id e n ht hi hid) h
variable {ops:Array Oper}
theorem DSeq.tri {i:Nat} {o:Oper} {l:List Oper} {s s':DS} {pf:List (Operand × D)} {pe:List (Nat × Option Ent)} {d:D} {we:Sg} {qs:List Sd} (ht:Tri P N o pf pe d we) (h1:Evs s.f pf) (h2:Ens s.σ pe)
  (hk:DSeq P N ops (i+1) l ⟨updF s.f o.dst d,we++s.σ⟩ s' qs) (hg:o.guard=none) (hd:dstOk N o.dst=true):DSeq P N ops i (o::l) s s' (⟨o.dst,pf,pe,d,we⟩::qs):=
 .cons (fun ho=>Stp.tri ho hg hd ht) h1 h2 hk
theorem DSeq.on {i j:Nat} {t:Tmp} {b:Bool} {o:Oper} {l:List Oper} {s s':DS} {pf:List (Operand × D)} {pe:List (Nat × Option Ent)} {d:D} {we:Sg} {qs:List Sd} (hg:o.guard=some (j,b)) (hj:(ops[j]?).bind (·.dst)=some t) (hb:lkF s.f t= .flat (.bool b)) (ht:Tri P N o pf pe d we) (h1:Evs s.f pf) (h2:Ens s.σ pe)
  (hk:DSeq P N ops (i+1) l ⟨updF s.f o.dst d,we++s.σ⟩ s' qs) (hd:dstOk N o.dst=true):DSeq P N ops i (o::l) s s' (⟨o.dst,(.tmp t,.flat (.bool b))::pf,pe,d,we⟩::qs):=
 .cons (fun ho=>Stp.on ho hg hj hd ht) ⟨hb,h1⟩ h2 hk
theorem DSeq.off {i j:Nat} {t:Tmp} {b:Bool} {v:Value} {o:Oper} {l:List Oper} {s s':DS} {qs:List Sd} (hg:o.guard=some (j,b)) (hj:(ops[j]?).bind (·.dst)=some t) (hv:lkF s.f t= .flat v) (hne:(boolOf v !=some b)=true) (htn:t<N % 512)
  (hk:DSeq P N ops (i+1) l ⟨updF s.f o.dst (.flat undef),s.σ⟩ s' qs) (hd:dstOk N o.dst=true):DSeq P N ops i (o::l) s s' (⟨o.dst,[(.tmp t,.flat v)],[],.flat undef,[]⟩::qs):=
 .cons (fun ho=>Stp.off ho hg hj htn hd hne) ⟨hv,trivial⟩ trivial hk
structure DC (P:Program) (N:Nat) (ops:Array Oper) (i:Nat) (l:List Oper) (s:DS) (acc:List Sd) (K:DS→List Sd→Prop):Prop where
 intro::
 go:∃ s' qs,DSeq P N ops i l s s' qs∧K s' (acc.reverse++qs)
theorem DC.nil {i:Nat} {s:DS} {acc:List Sd} {K:DS→List Sd→Prop} (h:K s acc.reverse):DC P N ops i [] s acc K:=⟨⟨s,[],.nil,by simpa using h⟩⟩
inductive GuardOk (ops:Array Oper) (o:Oper) (f:Fr):List (Operand × D)→Prop
 |none (h:o.guard= .none):GuardOk ops o f []
 |on {j:Nat} {b p:Bool} {t:Tmp} (h:o.guard=some (j,b)) (hj:(ops[j]?).bind (·.dst)=some t) (hv:lkF f t= .flat (.bool p)) (hp:p=b):GuardOk ops o f [(.tmp t,.flat (.bool b))]
theorem DC.tri {i:Nat} {o:Oper} {l:List Oper} {s:DS} {acc:List Sd} {K:DS→List Sd→Prop} {pf gp:List (Operand × D)} {pe:List (Nat × Option Ent)} {d:D} {we:Sg} (ht:Tri P N o pf pe d we) (h1:Evs s.f pf) (h2:Ens s.σ pe)
  (hk:DC P N ops (i+1) l ⟨updF s.f o.dst d,we++s.σ⟩ (⟨o.dst,gp++pf,pe,d,we⟩::acc) K) (hg:GuardOk ops o s.f gp) (hd:dstOk N o.dst=true):DC P N ops i (o::l) s acc K:=by
 obtain⟨s',qs,q1,q2⟩:=hk.go
 refine⟨?_⟩
 cases hg with
 |none h=>exact⟨s',_,DSeq.tri ht h1 h2 q1 h hd,by simpa using q2⟩
 |on h hj hv hp=>subst hp;exact⟨s',_,DSeq.on h hj hv ht h1 h2 q1 hd,by simpa using q2⟩
theorem DC.off {i j:Nat} {t:Tmp} {b:Bool} {v:Value} {o:Oper} {l:List Oper} {s:DS} {acc:List Sd} {K:DS→List Sd→Prop} (hg:o.guard=some (j,b)) (hj:(ops[j]?).bind (·.dst)=some t) (hv:lkF s.f t= .flat v) (hne:(boolOf v !=some b)=true) (htn:t<N % 512)
  (hk:DC P N ops (i+1) l ⟨updF s.f o.dst (.flat undef),s.σ⟩ (⟨o.dst,[(.tmp t,.flat v)],[],.flat undef,[]⟩::acc) K) (hd:dstOk N o.dst=true):DC P N ops i (o::l) s acc K:=by
 obtain⟨s',qs,q1,q2⟩:=hk.go
 refine⟨?_⟩
 exact⟨s',_,DSeq.off hg hj hv hne htn q1 hd,by simpa using q2⟩
theorem DC.offB {i j:Nat} {t:Tmp} {b p:Bool} {o:Oper} {l:List Oper} {s:DS} {acc:List Sd} {K:DS→List Sd→Prop} (hg:o.guard=some (j,b)) (hj:(ops[j]?).bind (·.dst)=some t) (hv:lkF s.f t= .flat (.bool p)) (hp:p=!b) (htn:t<N % 512)
  (hk:DC P N ops (i+1) l ⟨updF s.f o.dst (.flat undef),s.σ⟩ (⟨o.dst,[(.tmp t,.flat (.bool p))],[],.flat undef,[]⟩::acc) K) (hd:dstOk N o.dst=true):DC P N ops i (o::l) s acc K:=
 DC.off hg hj hv (by subst hp;cases b <;> rfl) htn hk hd
theorem DW.regionC {Q:Exit→DS→Prop} {s:DS} {id:Nat} {l:List Oper} (h:DC P N l.toArray 0 l s [] (fun s' _=>Q .normal s')):DW P N (.region id l.toArray false) s Q:=by
 obtain⟨s',qs,q1,q2⟩:=h.go
 exact DW.region q1 q2
theorem DW.drawnC {Q:Exit→DS→Prop} {s:DS} {id:Nat} {l:List Oper} (hm:P.follows .mixedOrders=true) (hlt:((List.range l.length).all fun i=>((l[i]?).map fun o=>o.after.all fun e=>!Region.binds .any e || decide (e.on<i)).getD true)=true)
  (h:DC P N l.toArray 0 l s [] (fun s' qs=>rOk (masks .any l []) (qs.map Sd.fp)=true∧Q .normal s')):DW P N (.region id l.toArray true) s Q:=by
 obtain⟨s',qs,q1,q2,q3⟩:=h.go
 exact DW.drawn q1 hm q2 hlt q3
end
end Go.Dm
