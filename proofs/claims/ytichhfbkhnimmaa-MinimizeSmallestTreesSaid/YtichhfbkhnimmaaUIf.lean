/- A machine over data: rows of the call's own appended to one another. No condition. -/
import Derived.Test.YtichhfbkhnimmaaUM
import Derived.Lib.ConvBytes
import Derived.Laws.IdiomStrings
import Derived.Laws.StructEq
import Derived.Laws.Pointers
import Derived.Maps.Own
import Derived.Maps.RangeRun
import Derived.Shelf.LaysM
import Derived.Shelf.Strconv.Itoa1
import Derived.Shelf.Strconv.Itoa2
import Derived.Shelf.Strconv.AppendInt10
import Derived.WideLaws
import Derived.Laws.Build
set_option linter.unusedSimpArgs false
set_option linter.unusedVariables false
set_option linter.unusedSectionVars false
set_option maxHeartbeats 400000
namespace Go.Dm
open Go Go.RowKit Go.PP
variable [GlobW] [Rnd]
section
variable {P:Program} {N:Nat} {dst:Option Tmp} {ty:TypeId} {pos:String} {af:Array Edge} {gd:Option (Nat × Bool)}
theorem T.appendOO {id id2 e n L m bytes:Nat} {z:Value} {cs ds:List D} (t:TypeId) (x y:Operand) (ht:P.underlying t=some (.slice e)) (hinfo:(P.info? e).map (fun i=>(i.zero,i.size,i.bytes))=some (some z,n,bytes)) (hzs:z.cells.size=n) (hsz:0<n) (hbp:0<bytes)
  (ho:oneL ds=true) (hby:(L+m)*bytes≤140737488355328):
  Tri P N ⟨dst,.call { callee:= .builtin .append,args:= #[x,y],argTypes:= #[t,t] },ty,pos,af,gd⟩ [(x,.own id L),(y,.own id2 m)] [(id,some (.row e n L cs)),(id2,some (.row e n m ds))] (.own id (L+m)) [(id,some (.row e n (L+m) (cs++ds)))]:=by
 refine⟨?_⟩
 intro w0 M0 B0 s a w next Q h1 h2 hd ⟨g,hs⟩ hk
 have he:=h2.1
 have hvx:=hs.eval x
 have hvy:=hs.eval y
 rw [show evalD s.f x= .own id L from h1.1] at hvx
 rw [show evalD s.f y= .own id2 m from h1.2.1] at hvy
 obtain⟨hu,vs,o1,o2⟩:=e6_ hs he hvx
 obtain⟨hu2,news,n0,n1⟩:=e6_ hs h2.2.1 hvy
 obtain⟨ad,c,r1,r4,n2,n3⟩:∃ ad c,a.eval y= .slice ad m c∧ds.length=m*n∧(ad=none→news=[])∧ ∀ a,ad=some a→ ∀ j u,news[j]?=some u→w.cell? (a.add j)=some u:=by
  have hl:=n0.1
  rcases ek_ n0 with⟨q1,q2⟩| ⟨b,o,cap,q1,q2,q3,q4⟩
  ·subst q2
   exact⟨none,0,q1,by rw [n1.length,hl],fun _=>List.eq_nil_of_length_eq_zero (by simpa using hl),fun a h=>by cases h⟩
  ·exact⟨_,cap,q1,by rw [n1.length,hl],fun h=>(by cases h),fun a ha j u hj=>by cases ha;rw [ct_];exact q4 j u hj⟩
 have hln:news.length=m*n:=by rw [← n1.length];exact r4
 obtain⟨v',w',hr,p2,p3,p4,p5⟩:=ij_ (P:=P) t t ty e ht hinfo hzs hsz _ L vs o1 _ m news (Src.sl (c:=c) ht hln n2 n3) hln (RepL.one ho n1) hby hbp
 refine cy_ (lc_ rfl r1 hr) ?_
 rw [hu] at p3 p4 p5
 exact hk _ _ (hs.grown he o2 n1 p2 p3 p4 p5 hd)
theorem q0_ {w0:World} {M0:Nat→Prop} {B0:Bd} {g:Gh} {s:DS} {a:Act} {w:World} (hs:StG w0 M0 B0 N g s a w) {id e n L:Nat} {cs:List D} (he:lkE s.σ id=some (.row e n L cs)) {u:Value} (hu:Rep (Mx M0 g s.σ) w (some (g,s.σ)) (.own id L) u) (hl:0<L):∃ ad c,u= .slice (some ad) L c:=by
 obtain⟨_,vs,o1,_⟩:=e6_ hs he hu
 rcases ek_ o1 with⟨_,q2⟩| ⟨b,o,cap,q1,_⟩
 ·omega
 ·exact⟨_,_,q1⟩
theorem T.eqNilO {t e ty' id L e2 n:Nat} {cs:List D} (x:Operand) (ht:P.underlying t=some (.slice e)) (hl:0<L):
  Tri P N ⟨dst,.binOp .eql t x (.const (.slice none 0 0)) ty',ty,pos,af,gd⟩ [(x,.own id L),(.const (.slice none 0 0),.flat (.slice none 0 0))] [(id,some (.row e2 n L cs))] (.flat (.bool false)) []:=Tri.read fun w0 M0 B0 g s a w hs he hv=>by
 obtain⟨ad,c,r1⟩:=q0_ hs he.1 hv.1 hl
 exact⟨_,w,ic_ w a.eval r1 hv.2.one ht ty',Mut.refl _ w,by simp only [Rep];rfl⟩
theorem DW.flattenO {Q:Exit→DS→Prop} {c:Code} {f:Fr} {σ:Sg} (t:Nat) {id:Nat} (ht:lkF f t= .own id 0) (h:∀ a cap,DW P N c ⟨(t,.flat (.slice a 0 cap))::f,σ⟩ Q):DW P N c ⟨f,σ⟩ Q:=by
 refine⟨fun w0 M0 B0 a w ⟨g,hs⟩=>?_⟩
 have h1:=hs.tm t
 rw [ht] at h1
 simp only [Rep] at h1
 obtain⟨_,_,_,_,ad,cap,r1⟩:=h1
 exact (h ad cap).go w0 M0 B0 a w ⟨g,StG.setF hs t _ (by simp only [Rep];exact r1)⟩
end
theorem RepC.le {M:Nat→Prop} {w:World} {b:Nat} (hM:∀ b,M b→b<w.heap.size):∀ {cs cs':List D} {off:Nat},LeL cs cs'→RepC M w b off cs→RepC M w b off cs'
 | [],[],_,_,_=>by simp only [RepC]
 |d::ds,e::es,off,hl,h=>by
  simp only [RepC] at h ⊢
  obtain⟨⟨u,h1,h2⟩,h3⟩:=h
  exact⟨⟨u,h1,hl.1 _ _ _ _ hM h2⟩,RepC.le hM hl.2 h3⟩
 | [],_::_,_,h,_=>h.elim
 |_::_,[],_,h,_=>h.elim
theorem LeL.length:∀ {cs cs':List D},LeL cs cs'→cs.length=cs'.length
 | [],[],_=>rfl
 |_::_,_::_,h=>by simp [LeL.length h.2]
 | [],_::_,h=>h.elim
 |_::_,[],h=>h.elim
theorem Le.slc {full:Bool} {n len:Nat} {cs cs':List D} (h:LeL cs cs'):Le (.sl full n len cs) (.sl full n len cs'):=fun M w G v hM h1=>by
 simp only [Rep] at h1 ⊢
 obtain⟨a,cap,q1,q2,q3,q4,q5,q6⟩:=h1
 refine⟨a,cap,q1,q2,q3,by rw [← h.length];exact q4,q5,?_⟩
 rcases q6 with q6| ⟨b,off,r1,r2,r3⟩
 ·exact .inl q6
 ·exact .inr ⟨b,off,r1,r2,RepC.le hM h r3⟩
theorem LeL.append:∀ {a b c d:List D},LeL a b→LeL c d→LeL (a++c) (b++d)
 | [],[],_,_,_,h=>h
 |_::_,_::_,_,_,h,h2=>⟨h.1,LeL.append h.2 h2⟩
 | [],_::_,_,_,h,_=>h.elim
 |_::_,[],_,_,h,_=>h.elim
theorem gy_ {α:Type} {f:α→List D} (h:∀ x,persL (f x)=true):∀ l:List α,persL (l.flatMap f)=true
 | []=>rfl
 |x::l=>by rw [List.flatMap_cons];exact cg_ (h x) (gy_ h l)
end Go.Dm
namespace Go.Dm
open Go Go.RowKit Go.PP
variable [GlobW] [Rnd]
section
variable {P:Program} {N:Nat} {dst:Option Tmp} {ty:TypeId} {pos:String} {af:Array Edge} {gd:Option (Nat × Bool)}
theorem StG.newRow {w0:World} {M0:Nat→Prop} {B0:Bd} {g:Gh} {s:DS} {a:Act} {w w':World} (hs:StG w0 M0 B0 N g s a w) {id e n L:Nat} {cs:List D} {vs:List Value} {v:Value} (hid:newId N id=true) (hno:lkE s.σ id=none) (hm:Fix w w') (hown:OwnR w' e n v L vs)
  (hnew:∀ b,v.ownBlock=some b→w.heap.size≤b) (hrep:RepL (Mx M0 g s.σ) w (some (g,s.σ)) cs vs) (hd:dstOk N dst=true):St w0 M0 B0 N ⟨updF s.f dst (.own id L),[(id,some (.row e n L cs))]++s.σ⟩ (a.put dst v) w':=by
 have hm':Mut (fun b=>blkOf g s.σ id=some b) w w':=hm.mono (fun _ _ e=>e.elim)
 have hgrow:Grow (g,s.σ) (⟨g.blk,fun k=>if k=id then v else g.row k⟩,(id,some (.row e n L cs))::s.σ):=
  ⟨fun k cs hc=>by
    have hne:k≠id:=fun e=>by subst e;simp only at hc;rw [hno] at hc;cases hc
    exact⟨⟨cs,by rw [aa_,if_neg (fun e=>hne e.symm)];exact hc⟩,rfl⟩,
   fun k e n len cs hc=>by
    have hne:k≠id:=fun e=>by subst e;simp only at hc;rw [hno] at hc;cases hc
    exact .inr ⟨e,n,len,cs,by rw [aa_,if_neg (fun e=>hne e.symm)];exact hc,Nat.le_refl _,fun _=>by simp [hne]⟩,
   fun k hc=>by
    have hne:k≠id:=fun e=>by subst e;simp only at hc;rw [hno] at hc;cases hc
    simp only at hc ⊢
    rw [aa_,if_neg (fun e=>hne e.symm)];exact hc⟩
 obtain⟨a5,c5,hv5⟩:∃ a c,v= .slice a L c:=by
  rcases hown.2 with⟨h,h0⟩| ⟨g1,o1,cap,cur,fz,h,_⟩
  ·exact⟨none,0,by rw [h,h0]⟩
  ·exact⟨_,_,h⟩
 refine⟨⟨g.blk,fun k=>if k=id then v else g.row k⟩,hs.set1 (g':=⟨g.blk,fun k=>if k=id then v else g.row k⟩) id (.row e n L cs) (fun _=>hid) hm' (fun k hk=>rfl) (fun k hk=>by simp [hk]) hgrow ?_ ?_ hd ?_⟩
 ·intro b hb
  simp only [blkOf,aa_,if_pos] at hb
  refine⟨?_,fun h=>by have:=hnew b hb;omega⟩
  rcases hown.2 with⟨h,h0⟩| ⟨g1,o1,cap,cur,fz,h,h2,_⟩
  ·rw [h] at hb;cases hb
  · rw [h] at hb
    simp only [Value.ownBlock,Option.some.injEq] at hb
    subst hb
    exact (Array.getElem?_eq_some_iff.1 h2).1
 ·intro M hM
  exact⟨vs,by simpa using hown,RepL.step (G:=some _) (G':=some _) hgrow hm (fun _ _ e=>e.elim) hM cs vs hrep⟩
 ·intro M hM
  simp only [Rep]
  exact⟨_,_,rfl,.inr ⟨e,n,L,cs,by rw [aa_,if_pos rfl],Nat.le_refl _,fun _=>by simp⟩,a5,c5,hv5⟩
theorem T.convI {k k2:IntKind} {n m:Int} {u:TypeDesc} (s t:TypeId) (x:Operand) (hs:P.underlying s=some u) (ht:P.underlying t=some (.int k2)) (h:k2.wrap n=m):
  Tri P N ⟨dst,.convert s t x,ty,pos,af,gd⟩ [(x,.flat (.int k n))] [] (.flat (.int k2 m)) []:=Tri.val fun M w G ρ hv=>
 ⟨.int k2 m,by simp [execOp,convert,ai_ hs,ai_ ht,hv.one,Conv.intToInt,h],by simp only [Rep]⟩
theorem T.and {k:IntKind} {a b c:Int} (t ty':TypeId) (x y:Operand) (h:k.wrap ((BitVec.ofInt k.bits a &&& BitVec.ofInt k.bits b).toNat)=c):Tri P N ⟨dst,.binOp .and t x y ty',ty,pos,af,gd⟩ [(x,.flat (.int k a)),(y,.flat (.int k b))] [] (.flat (.int k c)) []:=
 T.bin t ty' x y fun w=>by simp only [binOp,Op.intBits,ne_eq,not_true_eq_false,if_false,h,Sem.run_pure]
theorem T.or {k:IntKind} {a b c:Int} (t ty':TypeId) (x y:Operand) (h:k.wrap ((BitVec.ofInt k.bits a ||| BitVec.ofInt k.bits b).toNat)=c):Tri P N ⟨dst,.binOp .or t x y ty',ty,pos,af,gd⟩ [(x,.flat (.int k a)),(y,.flat (.int k b))] [] (.flat (.int k c)) []:=
 T.bin t ty' x y fun w=>by simp only [binOp,Op.intBits,ne_eq,not_true_eq_false,if_false,h,Sem.run_pure]
theorem uy_ {op:BinOp} {k k2:IntKind} {a b:Int} {v:Value} {t:TypeId} {x y:Operand} (w:World) (h:(binOp op t (.int k a) (.int k2 b)).run P w= .ok v w) (ρ:Operand→Value) (hx:ρ x= .int k a) (hy:ρ y= .int k2 b) (ty':TypeId):
  (execOp ρ ⟨dst,.binOp op t x y ty',ty,pos,af,gd⟩).run P w= .ok (.value v) w:=by
 simp only [execOp,hx,hy,Sem.run_bind]
 have:(eqGuard op t x y (.int k a) (.int k2 b)).run P w= .ok () w:=by
  unfold eqGuard;split <;> rfl
 rw [this]
 simp only [Result.andThen_ok,h,Sem.run_pure]
theorem T.shr {k k2:IntKind} {a b c:Int} (t ty':TypeId) (x y:Operand) (h0:0≤b) (h:a.fdiv (2 ^ (min b.toNat k.bits))=c):Tri P N ⟨dst,.binOp .shr t x y ty',ty,pos,af,gd⟩ [(x,.flat (.int k a)),(y,.flat (.int k2 b))] [] (.flat (.int k c)) []:=
 Tri.val fun M w G ρ hv=>⟨.int k c,uy_ w (by simp only [binOp,Op.shift,if_neg (show ¬ b<0 by omega),h,Sem.run_pure]) ρ hv.one hv.2.one ty',by simp only [Rep]⟩
end
end Go.Dm
namespace Go.Dm
open Go Go.RowKit Go.PP
variable [GlobW] [Rnd]
theorem wrapU (k:IntKind) (h:k.signed=false) (x:Int):k.wrap x=x % 2 ^ k.bits:=by simp [IntKind.wrap,h]
theorem wu64 {x:Int} (h0:0≤x) (h:x<18446744073709551616):IntKind.u64.wrap x=x:=by
 rw [wrapU .u64 rfl];exact Int.emod_eq_of_lt h0 h
theorem wj_ {w:Nat} (z:Int):z % 2 ^ w=((BitVec.ofInt w z).toNat:Int):=by
 rw [BitVec.toNat_ofInt]
 have:(0:Int)≤z % (2 ^ w:Nat):=Int.emod_nonneg _ (by exact_mod_cast (Nat.pos_iff_ne_zero.1 (Nat.two_pow_pos w)))
 rw [Int.toNat_of_nonneg this]
 push_cast
 rfl
theorem t9_ {w:Nat} (x:BitVec w):BitVec.ofInt w (x.toNat:Int)=x:=by simp
theorem ss_ (k:IntKind) (h:k.signed=false) (z:Int):k.wrap z=((BitVec.ofInt k.bits z).toNat:Int):=by rw [wrapU k h];exact wj_ z
theorem vd_ (k:IntKind) (h:k.signed=false) (x:BitVec k.bits):k.wrap (x.toNat:Int)=x.toNat:=by
 rw [ss_ k h,t9_]
theorem remN (a b:Nat):(a:Int).tmod (b:Int)=((a % b:Nat):Int):=rem64 (Int.natCast_nonneg a)
theorem quoN64 (a b:Nat) (hb:0<b) (h:a≤9223372036854775807):IntKind.i64.wrap ((a:Int).tdiv (b:Int))=((a / b:Nat):Int):=quo64 (by omega) (by omega) (by omega)
structure IsN (z:Int) (n:Nat):Prop where
 h:z=(n:Int)
theorem IsN.c (n:Nat):IsN (n:Int) n:=⟨rfl⟩
theorem IsN.l (n:Nat):IsN (@OfNat.ofNat Int n (@instOfNat n)) (@OfNat.ofNat Nat n (instOfNatNat n)):=⟨rfl⟩
theorem IsN.add {a b:Int} {m n:Nat} (h:IsN a m) (k:IsN b n):IsN (a+b) (m+n):=⟨by rw [h.h,k.h];rfl⟩
theorem IsN.mul {a b:Int} {m n:Nat} (h:IsN a m) (k:IsN b n):IsN (a*b) (m*n):=⟨by rw [h.h,k.h];rfl⟩
theorem IsN.sub {a b:Int} {m n:Nat} (h:IsN a m) (k:IsN b n) (hl:n≤m):IsN (a - b) (m - n):=⟨by rw [h.h,k.h];omega⟩
theorem IsN.toNat {a:Int} (h:0≤a):IsN a a.toNat:=⟨by omega⟩
theorem shrN (k:IntKind) (x b:Nat) (h:b≤k.bits):(x:Int).fdiv (2 ^ (min (b:Int).toNat k.bits))=((x / 2 ^ b:Nat):Int):=by
 rw [Int.toNat_natCast,Nat.min_eq_left h,Int.fdiv_eq_ediv_of_nonneg _ (by exact_mod_cast Nat.zero_le _)]
 push_cast;rfl
section
variable {P:Program} {N:Nat} {dst:Option Tmp} {ty:TypeId} {pos:String} {af:Array Edge} {gd:Option (Nat × Bool)}
theorem m8_ {t e:TypeId} {a b:Option Addr} (w:World) (ht:P.underlying t=some (.pointer e)) (h:a=none∨b=none):(Op.equal t (.pointer a) (.pointer b)).run P w= .ok (a.isNone && b.isNone) w:=by
 unfold Op.equal Op.maxDepth Op.equalIn
 rcases h with rfl|rfl
 ·simp [ai_ ht]
 ·cases a <;> simp [ai_ ht]
def isNilD:D→Option Bool
 | .flat (.pointer a)=>some a.isNone
 | .ref _ _=>some false
 | .ptr _ _=>some false
 |_=>none
theorem ej_ {M:Nat→Prop} {w:World} {G:Cx} {d:D} {b:Bool} {u:Value} (h:isNilD d=some b) (hr:Rep M w G d u):∃ a:Option Addr,u= .pointer a∧a.isNone=b:=by
 cases d with
 |flat v=>
  simp only [Rep] at hr
  subst hr
  cases u <;> simp [isNilD] at h
  exact⟨_,rfl,h⟩
 |ref id off=>simp [isNilD] at h;simp only [Rep] at hr;obtain⟨_,_,_,_,_,rfl⟩:=hr;exact⟨_,rfl,by rw [h];rfl⟩
 |ptr cs off=>simp [isNilD] at h;simp only [Rep] at hr;obtain⟨_,_,rfl,_⟩:=hr;exact⟨_,rfl,by rw [h];rfl⟩
 |_=>simp [isNilD] at h
theorem T.shr' {k k2:IntKind} {a b:Int} {m n:Nat} (t ty':TypeId) (x y:Operand) (n1:IsN a m) (n2:IsN b n) (h:n≤k.bits):Tri P N ⟨dst,.binOp .shr t x y ty',ty,pos,af,gd⟩ [(x,.flat (.int k a)),(y,.flat (.int k2 b))] [] (.flat (.int k ((m / 2 ^ n:Nat):Int))) []:=by
 obtain⟨rfl⟩:=n1;obtain⟨rfl⟩:=n2
 exact T.shr t ty' x y (by omega) (shrN k m n h)
theorem T.eqlPtr {t e ty':TypeId} {x y:Operand} {d1 d2:D} {a b:Bool} (ht:P.underlying t=some (.pointer e)) (h1:isNilD d1=some a) (h2:isNilD d2=some b) (h:(a || b)=true):
  Tri P N ⟨dst,.binOp .eql t x y ty',ty,pos,af,gd⟩ [(x,d1),(y,d2)] [] (.flat (.bool (a && b))) []:=Tri.val fun M w G ρ hv=>by
 obtain⟨p,hp,rfl⟩:=ej_ h1 hv.1
 obtain⟨q,hq,rfl⟩:=ej_ h2 hv.2.1
 have hp:ρ x= .pointer p:=hp
 have hq:ρ y= .pointer q:=hq
 refine⟨.bool (p.isNone && q.isNone),?_,by simp only [Rep]⟩
 have:=m8_ (P:=P) (a:=p) (b:=q) w ht (by cases p <;> cases q <;> simp at h ⊢)
 have h3:(binOp .eql t (.pointer p) (.pointer q)).run P w= .ok (.bool (p.isNone && q.isNone)) w:=by
  show (do pure (.bool (← Op.equal t (.pointer p) (.pointer q))):Sem Value).run P w=_
  simp only [Sem.run_bind,this,Result.andThen_ok,Sem.run_pure]
 have h4:∀ op:BinOp,(eqGuard op t x y (.pointer p) (.pointer q)).run P w= .ok () w:=fun op=>by cases op <;> rfl
 simp only [execOp,hp,hq,Sem.run_bind,h4,Result.andThen_ok]
 rw [h3]
 simp only [Result.andThen_ok,Sem.run_pure]
theorem T.neqPtr {t e ty':TypeId} {x y:Operand} {d1 d2:D} {a b:Bool} (ht:P.underlying t=some (.pointer e)) (h1:isNilD d1=some a) (h2:isNilD d2=some b) (h:(a || b)=true):
  Tri P N ⟨dst,.binOp .neq t x y ty',ty,pos,af,gd⟩ [(x,d1),(y,d2)] [] (.flat (.bool (!(a && b)))) []:=Tri.val fun M w G ρ hv=>by
 obtain⟨p,hp,rfl⟩:=ej_ h1 hv.1
 obtain⟨q,hq,rfl⟩:=ej_ h2 hv.2.1
 have hp:ρ x= .pointer p:=hp
 have hq:ρ y= .pointer q:=hq
 refine⟨.bool (!(p.isNone && q.isNone)),?_,by simp only [Rep]⟩
 have:=m8_ (P:=P) (a:=p) (b:=q) w ht (by cases p <;> cases q <;> simp at h ⊢)
 have h3:(binOp .neq t (.pointer p) (.pointer q)).run P w= .ok (.bool (!(p.isNone && q.isNone))) w:=by
  show (do pure (.bool (!(← Op.equal t (.pointer p) (.pointer q)))):Sem Value).run P w=_
  simp only [Sem.run_bind,this,Result.andThen_ok,Sem.run_pure]
 have h4:∀ op:BinOp,(eqGuard op t x y (.pointer p) (.pointer q)).run P w= .ok () w:=fun op=>by cases op <;> rfl
 simp only [execOp,hp,hq,Sem.run_bind,h4,Result.andThen_ok]
 rw [h3]
 simp only [Result.andThen_ok,Sem.run_pure]
theorem T.nilCheck {d:D} (x:Operand) (h:isNilD d=some false):Tri P N ⟨dst,.nilCheck x,ty,pos,af,gd⟩ [(x,d)] [] d []:=Tri.val fun M w G ρ hv=>by
 obtain⟨p,hp,h2⟩:=ej_ h hv.1
 have hp:ρ x= .pointer p:=hp
 cases p with
 |none=>cases h2
 |some a=>
  refine⟨.pointer (some a),by simp only [execOp,hp,Sem.run_pure],?_⟩
  have:=hv.1
  rw [hp] at this
  exact this
end
end Go.Dm
namespace Go.Dm
open Go Go.RowKit Go.PP
variable [GlobW] [Rnd]
section
variable {P:Program} {N:Nat} {dst:Option Tmp} {ty:TypeId} {pos:String} {af:Array Edge} {gd:Option (Nat × Bool)}
theorem oc_ {w:World} {r:Nat} {es:Array MapEntry} {clock:Nat} (hr:w.heap[r]?=some (.map es clock)) (o':Obj):(setObj r o').run P w= .ok () { w with heap:=w.heap.setIfInBounds r o' }:=by
 simp [setObj,Sem.run,hr]
theorem dp_ {w:World} {r:Nat} {es:Array MapEntry} {clock:Nat} (hr:w.heap[r]?=some (.map es clock)):(getObj r).run P w= .ok (.map es clock) w:=by
 simp [getObj,Sem.run,hr]
theorem T.makeMap (id:Nat) (t:TypeId) (hid:newId N id=true:=by first|exact rfl|assumption|decide +kernel):
  Tri P N ⟨dst,.makeMap t none,ty,pos,af,gd⟩ [] [(id,none)] (.mp id) [(id,some (.box [.keys []]))]:=by
 refine⟨?_⟩
 intro w0 M0 B0 s a w next Q h1 h2 hd ⟨g,hs⟩ hk
 have hex:(execOp a.eval ⟨dst,.makeMap t none,ty,pos,af,gd⟩).run P w= .ok (.value (.map (some w.heap.size))) (w.alloc (.map #[] 0)):=by
  simp only [execOp,Option.map_none,Instr.makeMap,Sem.run_bind,em_,Result.andThen_ok,Sem.run_pure]
 refine cy_ hex ?_
 have hno:lkE s.σ id=none:=h2.1
 have hm:Fix w (w.alloc (.map #[] 0)):=(Mut.refl _ w).alloc _
 have hm':Mut (fun b=>blkOf g s.σ id=some b) w (w.alloc (.map #[] 0)):=hm.mono (fun _ _ e=>e.elim)
 have hgrow:Grow (g,s.σ) (⟨fun k=>if k=id then w.heap.size else g.blk k,g.row⟩,(id,some (.box [.keys []]))::s.σ):=
  ⟨fun k cs hc=>by
    have hne:k≠id:=fun e=>by subst e;simp only at hc;rw [hno] at hc;cases hc
    exact⟨⟨cs,by rw [aa_,if_neg (fun e=>hne e.symm)];exact hc⟩,by simp [hne]⟩,
   fun k e n len cs hc=>by
    have hne:k≠id:=fun e=>by subst e;simp only at hc;rw [hno] at hc;cases hc
    exact .inr ⟨e,n,len,cs,by rw [aa_,if_neg (fun e=>hne e.symm)];exact hc,Nat.le_refl _,fun _=>rfl⟩,
   fun k hc=>by
    have hne:k≠id:=fun e=>by subst e;simp only at hc;rw [hno] at hc;cases hc
    simp only at hc ⊢
    rw [aa_,if_neg (fun e=>hne e.symm)];exact hc⟩
 refine hk _ _ ⟨⟨fun k=>if k=id then w.heap.size else g.blk k,g.row⟩,hs.set1 (g':=⟨fun k=>if k=id then w.heap.size else g.blk k,g.row⟩) id (.box [.keys []]) (fun _=>hid) hm' (fun k hk=>by simp [hk]) (fun k hk=>rfl) hgrow ?_ ?_ hd ?_⟩
 ·intro b hb
  simp only [blkOf,aa_,if_pos,Option.some.injEq] at hb
  subst hb
  exact⟨by simp,fun h=>by omega⟩
 ·intro M hM
  refine⟨[undef],.map #[] 0,by simp only [if_pos];exact heap_alloc_new w _,?_,?_⟩
  ·simp only [RepL,Rep];exact⟨_,_,rfl,trivial,rfl⟩
  · unfold ObjIs keysOf
    exact⟨#[],0,rfl,rfl,rfl⟩
 ·intro M hM
  simp only [Rep]
  exact⟨_,_,_,rfl,by rw [aa_,if_pos rfl],by simp⟩
theorem it_ {w0:World} {M0:Nat→Prop} {B0:Bd} {g:Gh} {s:DS} {a:Act} {w:World} (hs:StG w0 M0 B0 N g s a w) {id:Nat} {ks:List Value} {ds:List D} (he:lkE s.σ id=some (.box (.keys ks::ds))):
  ∃ (u:Value) (es:Array MapEntry) (clock:Nat),w.heap[g.blk id]?=some (.map es clock)∧es.toList.map (·.key)=ks∧RepL (Mx M0 g s.σ) w (some (g,s.σ)) ds (es.toList.map (·.val)):=by
 obtain⟨vs,o,h1,h2,h3⟩:=hs.ent id _ he
 unfold ObjIs keysOf at h3
 obtain⟨es,clock,rfl,h4,h5⟩:=h3
 simp only [RepL] at h2
 obtain⟨u,us,rfl,_,h6⟩:=h2
 simp only [List.tail_cons] at h5
 subst h5
 exact⟨u,es,clock,h1,h4,h6⟩
theorem Le.fn {f:Fn}:Le (.flat (.func f #[] #[])) (.clo f [] []):=fun M w G v _ h=>by
 simp only [Rep,RepL] at h ⊢
 exact⟨[],[],h,rfl,rfl⟩
theorem ResL.two {fn:Func} {s:DS} {we:Sg} {f':Fr} {t u:Tmp} {d e:D} (hr:fn.results= #[.tmp t,.tmp u]) (h1:EsOk s.σ we we) (h2:FsOk s.σ we s.f f') (hd:lkF f' t=d) (he:lkF f' u=e):ResL P fn N s we (.tup [d,e]):=
 ⟨f',h1,h2,fun w0 M0 B0 g a w hs=>⟨.tuple #[a.tmps.getD t undef,a.tmps.getD u undef],by simp [results,hr],by
  have q1:=hs.tm t
  have q2:=hs.tm u
  rw [hd] at q1
  rw [he] at q2
  simp only [Rep,RepL]
  exact⟨_,rfl,_,_,rfl,q1,_,_,rfl,q2,rfl⟩⟩⟩
end
end Go.Dm
namespace Go.Dm
open Go Go.RowKit Go.PP Go.Shelf Go.Sort Go.Lib Go.Proofs
variable [GlobW] [Rnd]
section
variable {P:Program}
theorem OwnR.lt {w:World} {e n size:Nat} {v:Value} {cs:List Value} (h:OwnR w e size v n cs):∀ k,v.ownBlock=some k→k<w.heap.size:=by
 intro k hk
 rcases h.2 with⟨rfl,_⟩| ⟨g,o,cap,cur,fz,rfl,h2,_⟩
 ·cases hk
 ·cases hk;exact (Array.getElem?_eq_some_iff.1 h2).1
end
end Go.Dm
namespace Go.Dm
open Go Go.RowKit Go.PP
variable [GlobW] [Rnd]
section
variable {P:Program} {N:Nat} {dst:Option Tmp} {ty:TypeId} {pos:String} {af:Array Edge} {gd:Option (Nat × Bool)}
end
end Go.Dm
namespace Go.Dm
open Go Go.RowKit Go.PP
variable [GlobW] [Rnd]
section
variable {P:Program} {N:Nat} {dst:Option Tmp} {ty:TypeId} {pos:String} {af:Array Edge} {gd:Option (Nat × Bool)}
theorem ResOk.three {fn:Func} {s:DS} {t u v:Tmp} {d d' e e' f f':D} (pe:Sg) (hr:fn.results= #[.tmp t,.tmp u,.tmp v]) (hd:lkF s.f t=d) (hd2:lkF s.f u=e) (hd3:lkF s.f v=f) (he:Ens s.σ pe) (h:Vw pe d d') (h2:Vw pe e e') (h3:Vw pe f f'):ResOk P fn s (.tup [d',e',f']):=fun w0 M0 B0 N g a w hs=>
 ⟨.tuple #[a.tmps.getD t undef,a.tmps.getD u undef,a.tmps.getD v undef],by simp [results,hr],by
  simp only [Rep]
  refine⟨[_,_,_],rfl,?_⟩
  simp only [RepL]
  exact⟨_,_,rfl,h.out hs he (by rw [← hd];exact hs.tm t),_,_,rfl,h2.out hs he (by rw [← hd2];exact hs.tm u),_,_,rfl,h3.out hs he (by rw [← hd3];exact hs.tm v),rfl⟩⟩
theorem ResOk.cellTmp2 {fn:Func} {s:DS} {x u v:Tmp} {t id n:Nat} {bb:Bool} {cs:List D} {d d' e e' f f':D} (pe:Sg) (hr:fn.results= #[.cell x t,.tmp u,.tmp v]) (hx:lkF s.f x= .ref id 0) (hi:lkE s.σ id=some (.box cs)) (hb:aggOf P t=some bb) (hn:sizeOfT P t=some n) (hd:partD bb n 0 cs=some d) (hu:lkF s.f u=e) (hv:lkF s.f v=f) (he:Ens s.σ pe) (h:Vw pe d d') (h2:Vw pe e e') (h3:Vw pe f f') (hk:keysOf cs=none:=by first|rfl|assumption):ResOk P fn s (.tup [d',e',f']):=fun w0 M0 B0 N g a w hs=>by
 have h0:=hs.tm x
 rw [hx] at h0
 obtain⟨ad,v',h1,h4,h5⟩:=fv_ (P:=P) hs hi hb hn hd hk h0
 rw [Array.getD_eq_getD_getElem?] at h1
 refine⟨.tuple #[v',a.tmps.getD u undef,a.tmps.getD v undef],by simp [results,hr,h1,h4],?_⟩
 simp only [Rep]
 refine⟨[_,_,_],rfl,?_⟩
 simp only [RepL]
 exact⟨_,_,rfl,h.out hs he h5,_,_,rfl,h2.out hs he (by rw [← hu];exact hs.tm u),_,_,rfl,h3.out hs he (by rw [← hv];exact hs.tm v),rfl⟩
end
end Go.Dm
