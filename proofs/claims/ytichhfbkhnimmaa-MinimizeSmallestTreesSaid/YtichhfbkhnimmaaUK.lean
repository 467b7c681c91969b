/- A machine over data: the rules in the form in which walks use them; lists. No condition. -/
import Derived.Test.YtichhfbkhnimmaaUI
import Derived.Laws.Cover3
set_option linter.unusedSimpArgs false
set_option linter.unusedVariables false
set_option linter.unusedSectionVars false
set_option maxHeartbeats 400000
namespace Go.Dm
open Go Go.RowKit Go.PP
variable [GlobW] [Rnd]
section
variable {P:Program} {N:Nat} {dst:Option Tmp} {ty:TypeId} {pos:String} {af:Array Edge} {gd:Option (Nat × Bool)}
def FieldAt (P:Program) (t i off n:Nat):Prop:= ∃ fs f,P.underlying t=some (.struct fs)∧fs[i]?=some f∧f.offset=off∧sizeOfT P f.type=some n∧aggOf P f.type=some (decide (1<n))
theorem T.fieldRef' {id off n k:Nat} (t:TypeId) (x:Operand) (i:Nat) (h:FieldAt P t i k n) (h0:n≠0):
  Tri P N ⟨dst,.fieldAddr t x i,ty,pos,af,gd⟩ [(x,.ref id off)] [] (.ref id (off+k)) []:=by
 obtain⟨fs,f,h1,h2,rfl,h3,_⟩:=h
 exact T.fieldRef t x i h1 h2 h3 h0
theorem T.fieldPtr' {off n k:Nat} {cs:List D} (t:TypeId) (x:Operand) (i:Nat) (h:FieldAt P t i k n) (h0:n≠0):
  Tri P N ⟨dst,.fieldAddr t x i,ty,pos,af,gd⟩ [(x,.ptr cs off)] [] (.ptr cs (off+k)) []:=by
 obtain⟨fs,f,h1,h2,rfl,h3,_⟩:=h
 exact T.fieldPtr t x i h1 h2 h3 h0
theorem T.pickT {d:D} (c x y:Operand):Tri P N ⟨dst,.pick c x y,ty,pos,af,gd⟩ [(c,.flat (.bool true)),(x,d)] [] d []:=Tri.val fun M w G ρ h=>
 ⟨ρ x,by simp [execOp,h.one,asBool],h.2.1⟩
theorem T.pickF {d:D} (c x y:Operand):Tri P N ⟨dst,.pick c x y,ty,pos,af,gd⟩ [(c,.flat (.bool false)),(y,d)] [] d []:=Tri.val fun M w G ρ h=>
 ⟨ρ y,by simp [execOp,h.one,asBool],h.2.1⟩
theorem T.pickT' {d:D} {p:Bool} (c x y:Operand) (hp:p=true):Tri P N ⟨dst,.pick c x y,ty,pos,af,gd⟩ [(c,.flat (.bool p)),(x,d)] [] d []:=by subst hp;exact T.pickT c x y
theorem T.pickF' {d:D} {p:Bool} (c x y:Operand) (hp:p=false):Tri P N ⟨dst,.pick c x y,ty,pos,af,gd⟩ [(c,.flat (.bool p)),(y,d)] [] d []:=by subst hp;exact T.pickF c x y
theorem T.minI {k:IntKind} {a b c:Int} (ts:Array TypeId) (x y:Operand) (h:(if b<a then b else a)=c):Tri P N ⟨dst,.call { callee:= .builtin .min,args:= #[x,y],argTypes:=ts },ty,pos,af,gd⟩ [(x,.flat (.int k a)),(y,.flat (.int k b))] [] (.flat (.int k c)) []:=Tri.val fun M w G ρ hv=>by
 refine⟨.int k c,?_,by simp only [Rep]⟩
 rw [← h]
 simp [execOp,resolve,invoke,builtin,Builtin.min_,Builtin.min2,hv.one,hv.2.one]
theorem T.maxI {k:IntKind} {a b c:Int} (ts:Array TypeId) (x y:Operand) (h:(if b>a then b else a)=c):Tri P N ⟨dst,.call { callee:= .builtin .max,args:= #[x,y],argTypes:=ts },ty,pos,af,gd⟩ [(x,.flat (.int k a)),(y,.flat (.int k b))] [] (.flat (.int k c)) []:=Tri.val fun M w G ρ hv=>by
 refine⟨.int k c,?_,by simp only [Rep]⟩
 rw [← h]
 simp [execOp,resolve,invoke,builtin,Builtin.max_,Builtin.max2,hv.one,hv.2.one]
def xf_ (l:List Int):D:= .sl false 1 l.length (l.map fun x=> .flat (.int .i64 x))
def wl_ (l:List Bool):D:= .sl false 1 l.length (l.map fun x=> .flat (.bool x))
def aaj (l:List (List Int)):D:= .sl false 1 l.length (l.map xf_)
theorem ac_ {α:Type} {f:α→D} (hf:∀ x,pers (f x)=true):∀ l:List α,persL (l.map f)=true
 | []=>rfl
 |x::l=>by simp [persL,hf,ac_ hf l]
theorem gl_ {α:Type} {f:α→D} (hf:∀ x,oneD (f x)=true):∀ l:List α,oneL (l.map f)=true
 | []=>rfl
 |x::l=>by simp [oneL,hf,gl_ hf l]
theorem mx_ {α:Type} {f:α→D} {l:List α} {j:Nat} {y:α} (h:l[j]?=some y):partD false 1 (j*1) (l.map f)=some (f y):=by simp [partD,h]
theorem w64 {a:Int} (h: -9223372036854775808≤a) (h2:a≤9223372036854775807):IntKind.i64.wrap a=a:=IntWalk.i64_in a ⟨h,h2⟩
theorem quo64 {a b:Int} (ha:0≤a) (hb:0<b) (h:a≤9223372036854775807):IntKind.i64.wrap (a.tdiv b)=a / b:=by
 rw [Int.tdiv_eq_ediv_of_nonneg ha]
 have h1:0≤a / b:=Int.ediv_nonneg ha (by omega)
 have h2:a / b≤a:=Int.ediv_le_self b ha
 exact w64 (by omega) (by omega)
theorem rem64 {a b:Int} (ha:0≤a):a.tmod b=a % b:=Int.tmod_eq_emod_of_nonneg ha
end
section
variable {P:Program} {N:Nat} {R:DS→Prop} {Q:Exit→DS→Prop} {s s':DS} {ops:Array Oper}
theorem DW.condT' {p:Bool} {c:Operand} {x y:Code} (hc:evalD s.f c= .flat (.bool p)) (hp:p=true) (h:DW P N x s Q):DW P N (.cond c x y) s Q:=by subst hp;exact DW.condT hc h
theorem DW.condF' {p:Bool} {c:Operand} {x y:Code} (hc:evalD s.f c= .flat (.bool p)) (hp:p=false) (h:DW P N y s Q):DW P N (.cond c x y) s Q:=by subst hp;exact DW.condF hc h
theorem Thn.n (h:R s):Thn R Q .normal s:=h
theorem Thn.e {id:Nat} (h:Q (.exit id) s):Thn R Q (.exit id) s:=h
theorem Thn.r (h:Q .ret s):Thn R Q .ret s:=h
theorem Blk.n {id:Nat} (h:Q .normal s):Blk id Q .normal s:=h
theorem Blk.r {id:Nat} (h:Q .ret s):Blk id Q .ret s:=h
theorem Blk.here {id:Nat} (h:Q .normal s):Blk id Q (.exit id) s:=by simp only [Blk,if_true];exact h
theorem Blk.pass {id id':Nat} (hn:Nat.beq id' id=false) (h:Q (.exit id') s):Blk id Q (.exit id') s:=by
 have hne:¬ id'=id:=fun e=>by subst e;simp at hn
 simp only [Blk,hne,if_false];exact h
end
section
variable {P:Program} {N:Nat} {f f':Fr} {σ σ':Sg}
theorem Sub.frame (h2:FsOk [] [] f f'):Sub N ⟨f,[]⟩ ⟨f',[]⟩:=Sub.of trivial h2
theorem Vs.nil {b:Bool} {n:Nat}:Vs σ σ' (.flat (.slice none 0 0)) (.sl b n 0 []):=Vs.le (Vs.pers rfl) (Le.nil b n)
end
section
variable {P:Program} {N:Nat} {f:Fr} {σ:Sg}
theorem RepL.set {M:Nat→Prop} {w:World} {G:Cx}:∀ {ds:List D} {vs:List Value} {k:Nat} {d:D},RepL M w G ds vs→(∀ u,vs[k]?=some u→Rep M w G d u)→RepL M w G (ds.set k d) vs
 | [],vs,k,d,h,_=>by simpa using h
 |e::ds,vs,0,d,h,hd=>by
  simp only [RepL] at h
  obtain⟨u,us,rfl,h2,h3⟩:=h
  simp only [List.set_cons_zero,RepL]
  exact⟨u,us,rfl,hd u (by simp),h3⟩
 |e::ds,vs,k+1,d,h,hd=>by
  simp only [RepL] at h
  obtain⟨u,us,rfl,h2,h3⟩:=h
  simp only [List.set_cons_succ,RepL]
  exact⟨u,us,rfl,h2,RepL.set h3 (fun u' hu=>hd u' (by simpa using hu))⟩
theorem qe_ {cs:List D} {k:Nat} {d e:D} (hk:cs[k]?=some d) (hd:oneD d=true) (he:oneD e=true):keysOf (cs.set k e)=keysOf cs:=by
 cases cs with
 |nil=>rfl
 |cons c r=>
  cases k with
  |zero=>
   simp at hk;subst hk
   cases c <;> first|(simp [oneD] at hd;done)|(cases e <;> first|rfl|(simp [oneD] at he;done))
  |succ k=>cases c <;> rfl
theorem Sub.adoptBox (id k rid:Nat) (e n:Nat) {cs:List D} (hb:lkE σ id=some (.box cs)) (hk:cs[k]?=some (.flat (.slice none 0 0))) (hi:lkE σ rid=none) (hid:newId N rid=true:=by first|exact rfl|decide +kernel):Sub N ⟨f,σ⟩ ⟨f,(id,some (.box (cs.set k (.own rid 0))))::(rid,some (.row e n 0 []))::σ⟩:=by
 intro w0 M0 B0 a w ⟨g,hs⟩
 have hn:∀ k c,lkE σ k=some c→ ¬ rid=k:=fun k c hk e=>by subst e;rw [hi] at hk;cases hk
 have hb0:blkOf g σ rid=none:=by unfold blkOf;rw [hi]
 have hG:Grow (g,σ) (⟨g.blk,fun k=>if k=rid then .slice none 0 0 else g.row k⟩,(rid,some (.row e n 0 []))::σ):=
  ⟨fun k cs hk=>⟨⟨cs,by rw [aa_,if_neg (hn k _ hk)];exact hk⟩,rfl⟩,fun k e n len cs hk=> .inr ⟨e,n,len,cs,by rw [aa_,if_neg (hn k _ hk)];exact hk,Nat.le_refl _,fun _=>by simp [show ¬ k=rid from fun q=>hn k _ hk q.symm]⟩,fun k hk=>by simp only at hk ⊢;rw [aa_,if_neg (hn k _ hk)];exact hk⟩
 have h1:StG w0 M0 B0 N ⟨g.blk,fun k=>if k=rid then .slice none 0 0 else g.row k⟩ ⟨f,(rid,some (.row e n 0 []))::σ⟩ a w:=hs.set1 (g':=⟨g.blk,fun k=>if k=rid then .slice none 0 0 else g.row k⟩) (w':=w) rid (.row e n 0 []) (fun _=>hid) (Mut.refl _ w) (fun _ _=>rfl) (fun k hk=>by simp [hk]) hG
  (fun b hb=>by simp [blkOf,aa_,Value.ownBlock] at hb) (fun M hM=>⟨[],by simp only [if_pos];exact OwnR.nil _ _ _,by simp only [RepL]⟩) (dst:=none) rfl (d:= .any) (v:=undef) (fun M hM=>by simp only [Rep])
 generalize hg1:(⟨g.blk,fun k=>if k=rid then .slice none 0 0 else g.row k⟩:Gh)=g1 at h1
 have hrow:g1.row rid= .slice none 0 0:=by rw [← hg1];simp
 have hne:¬ rid=id:=hn id _ hb
 have hb1:lkE ((rid,some (.row e n 0 []))::σ) id=some (.box cs):=by rw [aa_,if_neg hne];exact hb
 have hbk:∀ x,blkOf g1 ((id,some (.box (cs.set k (.own rid 0))))::(rid,some (.row e n 0 []))::σ) x=blkOf g1 ((rid,some (.row e n 0 []))::σ) x:=fun x=>by
  rw [ka_]
  by_cases e1:id=x
  ·subst e1;rw [if_pos rfl];unfold blkOf;rw [hb1]
  ·rw [if_neg e1]
 have hG2:Grow (g1,(rid,some (.row e n 0 []))::σ) (g1,(id,some (.box (cs.set k (.own rid 0))))::(rid,some (.row e n 0 []))::σ):=
  ⟨fun x c hx=>by
   by_cases e1:id=x
   ·subst e1;exact⟨⟨_,by rw [aa_,if_pos rfl]⟩,rfl⟩
   ·exact⟨⟨c,by rw [aa_,if_neg e1];exact hx⟩,rfl⟩,fun x e1 n1 l1 c1 hx=>by
   have:¬ id=x:=fun q=>by subst q;simp only at hx;rw [hb1] at hx;cases hx
   exact .inr ⟨e1,n1,l1,c1,by rw [aa_,if_neg this];exact hx,Nat.le_refl _,fun _=>rfl⟩,fun x hx=>by
   have:¬ id=x:=fun q=>by subst q;simp only at hx;rw [hb1] at hx;cases hx
   simp only at hx ⊢;rw [aa_,if_neg this];exact hx⟩
 have hMx:∀ b,Mx M0 g1 ((id,some (.box (cs.set k (.own rid 0))))::(rid,some (.row e n 0 []))::σ) b→Mx M0 g1 ((rid,some (.row e n 0 []))::σ) b:=by
  rintro b (h| ⟨x,h⟩)
  ·exact .inl h
  ·exact .inr ⟨x,by rw [← hbk];exact h⟩
 have st:∀ d v,Rep (Mx M0 g1 ((rid,some (.row e n 0 []))::σ)) w (some (g1,(rid,some (.row e n 0 []))::σ)) d v→Rep (Mx M0 g1 ((id,some (.box (cs.set k (.own rid 0))))::(rid,some (.row e n 0 []))::σ)) w (some (g1,(id,some (.box (cs.set k (.own rid 0))))::(rid,some (.row e n 0 []))::σ)) d v:=
  fun d v h=>h.step (S:=fun _=>False) (G:=some _) (G':=some _) hG2 (Mut.refl _ w) (fun _ _ e=>e.elim) (fun b _ h=>hMx b h)
 have stL:∀ ds vs,RepL (Mx M0 g1 ((rid,some (.row e n 0 []))::σ)) w (some (g1,(rid,some (.row e n 0 []))::σ)) ds vs→RepL (Mx M0 g1 ((id,some (.box (cs.set k (.own rid 0))))::(rid,some (.row e n 0 []))::σ)) w (some (g1,(id,some (.box (cs.set k (.own rid 0))))::(rid,some (.row e n 0 []))::σ)) ds vs:=
  fun ds vs h=>RepL.step (S:=fun _=>False) (G:=some _) (G':=some _) hG2 (Mut.refl _ w) (fun _ _ e=>e.elim) (fun b _ h=>hMx b h) ds vs h
 refine⟨g1,h1.chg,h1.m0,h1.df.step (S:=fun _=>False) (Mut.refl _ w) rfl (fun _ _ e=>e.elim) (fun x b q _=>⟨x,by rw [← hbk];exact q⟩),h1.sz,fun t=>st _ _ (h1.tm t),fun x ex hx=>?_,fun x x' b q1 q2=>h1.sep x x' b (by rw [← hbk];exact q1) (by rw [← hbk];exact q2),fun x b q=>h1.new x b (by rw [← hbk];exact q),h1.anc.grow hG2 (fun x q1 q2=>(by
  by_cases e1:id=x
  ·subst e1;rw [hb1] at q1;cases q1
  ·rw [aa_,if_neg e1] at q2;exact absurd q1 q2)),h1.glo⟩
 simp only [aa_] at hx
 by_cases e1:id=x
 ·rw [if_pos e1] at hx
  subst e1
  cases hx
  obtain⟨vs,T,o1,o2,o4⟩:=h1.ent id _ hb1
  refine⟨vs,T,o1,RepL.set (stL _ _ o2) (fun u hu=>?_),o4.of (qe_ hk rfl rfl)⟩
  obtain⟨u',hu',hr⟩:=o2.get k hk
  rw [hu] at hu'
  cases hu'
  simp only [Rep] at hr ⊢
  subst hr
  exact⟨g1,_,rfl,.inr ⟨e,n,0,[],by rw [aa_,if_neg (fun q=>hne q.symm),aa_,if_pos rfl],Nat.le_refl _,fun _=>hrow.symm⟩,none,0,rfl⟩
 ·rw [if_neg e1,← aa_] at hx
  have:=h1.ent x ex hx
  cases ex with
  |box c=>obtain⟨vs,T,o1,o2,o4⟩:=this;exact⟨vs,T,o1,stL _ _ o2,o4⟩
  |row e2 n2 l2 c=>obtain⟨vs,o1,o2⟩:=this;exact⟨vs,o1,stL _ _ o2⟩
  |dead=>trivial
theorem DW.adoptBox {Q:Exit→DS→Prop} {c:Code} (id k rid e n:Nat) {cs:List D} (hb:lkE σ id=some (.box cs)) (hk:cs[k]?=some (.flat (.slice none 0 0))) (hi:lkE σ rid=none) (h:DW P N c ⟨f,(id,some (.box (cs.set k (.own rid 0))))::(rid,some (.row e n 0 []))::σ⟩ Q) (hid:newId N rid=true:=by first|exact rfl|decide +kernel):DW P N c ⟨f,σ⟩ Q:=DW.sub (Sub.adoptBox id k rid e n hb hk hi hid) h
end
theorem cg_:∀ {l r:List D},persL l=true→persL r=true→persL (l++r)=true
 | [],r,_,h=>h
 |d::ds,r,h1,h2=>by
  simp only [persL,Bool.and_eq_true] at h1
  simp only [List.cons_append,persL,Bool.and_eq_true]
  exact⟨h1.1,cg_ h1.2 h2⟩
theorem jk_ {d:D} (h:pers d=true):∀ {n:Nat},persL (List.replicate n d)=true
 |0=>rfl
 |n+1=>by simp only [List.replicate_succ,persL,h,jk_ h,Bool.and_self]
theorem VwL.nil {pe:Sg}:VwL pe [] []:=trivial
theorem VwL.cons {pe:Sg} {d e:D} {ds es:List D} (h:Vw pe d e) (t:VwL pe ds es):VwL pe (d::ds) (e::es):=⟨h,t⟩
theorem Vw.p {pe:Sg} {d e:D} (hp:Dm.pers d=true) (hl:Le d e):Vw pe d e:=Vw.le (Vw.pers hp) hl
theorem LeL.nil:LeL [] []:=trivial
theorem LeL.cons {d e:D} {ds es:List D} (h:Le d e) (t:LeL ds es):LeL (d::ds) (e::es):=⟨h,t⟩
theorem Vs.refl {σ:Sg} (d:D):Vs σ σ d d:=fun _ _ _ _ _ _ _ _ _ _ _ hv=>hv
theorem VsL.refl {σ:Sg}:∀ ds:List D,VsL σ σ ds ds
 | []=>trivial
 |d::ds=>⟨Vs.refl d,VsL.refl ds⟩
theorem Sub.slots {N:Nat} {f f':Fr} {σ:Sg} (h:FsOk σ σ f f'):Sub N ⟨f,σ⟩ ⟨f',σ⟩:=fun w0 M0 B0 a w ⟨g,hs⟩=>
 ⟨g,hs.chg,hs.m0,hs.df,hs.sz,fun t=>h.at t _ _ _ _ _ _ _ _ hs (fun _ _ h=>h) _ (hs.tm t),hs.ent,hs.sep,hs.new,hs.anc,hs.glo⟩
theorem T.buildSl0 {P:Program} {N:Nat} {dst:Option Tmp} {ty:TypeId} {pos:String} {af:Array Edge} {gd:Option (Nat × Bool)} {n e:Nat} {z:Value} (t:TypeId) (ht:P.underlying t=some (.slice e)) (hz:zeroT P e=some z) (hn:sizeOfT P e=some n):
  Tri P N ⟨dst,.buildSlice t 0 #[],ty,pos,af,gd⟩ [] [] (.sl true n 0 []) []:=
 T.buildSl t [] ht hz hn (by omega) (by omega) (fun base hb=>by simp at hb;subst hb;rfl) rfl (by simp)
theorem lg_ {cs:List D}:partD true cs.length 0 cs=some (.agg cs):=by simp [partD]
theorem ResOk.cellA {P:Program} {fn:Func} {s:DS} {x:Tmp} {t id:Nat} {cs cs':List D} {d':D} (pe:Sg) (hr:fn.results= #[.cell x t]) (hx:lkF s.f x= .ref id 0) (hi:lkE s.σ id=some (.box cs)) (hb:aggOf P t=some true) (hn:sizeOfT P t=some cs.length) (he:Ens s.σ pe) (h:VwL pe cs cs') (hd:Le (.agg cs') d') (hk:keysOf cs=none:=by first|rfl|assumption):ResOk P fn s d':=
 ResOk.cell pe hr hx hi hb hn lg_ he (Vw.le (Vw.agg h) hd) hk
theorem ResOk.cellTmpA {P:Program} {fn:Func} {s:DS} {x u:Tmp} {t id:Nat} {cs cs':List D} {d' e e':D} (pe:Sg) (hr:fn.results= #[.cell x t,.tmp u]) (hx:lkF s.f x= .ref id 0) (hi:lkE s.σ id=some (.box cs)) (hb:aggOf P t=some true) (hn:sizeOfT P t=some cs.length) (hu:lkF s.f u=e) (he:Ens s.σ pe) (h:VwL pe cs cs') (hd:Le (.agg cs') d') (h2:Vw pe e e') (hk:keysOf cs=none:=by first|rfl|assumption):ResOk P fn s (.tup [d',e']):=
 ResOk.cellTmp pe hr hx hi hb hn lg_ hu he (Vw.le (Vw.agg h) hd) h2 hk
end Go.Dm
namespace Go.Dm
open Go Go.RowKit Go.PP
variable [GlobW] [Rnd]
section
variable {P:Program} {N:Nat} {dst:Option Tmp} {ty:TypeId} {pos:String} {af:Array Edge} {gd:Option (Nat × Bool)}
theorem ic_ {t e:TypeId} {x:Operand} {a:Option Addr} {l c:Nat} (w:World) (ρ:Operand→Value) (hx:ρ x= .slice a l c) (hn:ρ (.const (.slice none 0 0))= .slice none 0 0) (ht:P.underlying t=some (.slice e)) (ty':TypeId):
  (execOp ρ ⟨dst,.binOp .eql t x (.const (.slice none 0 0)) ty',ty,pos,af,gd⟩).run P w= .ok (.value (.bool a.isNone)) w:=by
 simp [execOp,hx,hn,eqGuard,binOp,run_equal_slice_nil w t e a l c ht]
theorem T.eqNilF {t e ty':TypeId} {a:Option Addr} {l c:Nat} (x:Operand) (ht:P.underlying t=some (.slice e)):
  Tri P N ⟨dst,.binOp .eql t x (.const (.slice none 0 0)) ty',ty,pos,af,gd⟩ [(x,.flat (.slice a l c)),(.const (.slice none 0 0),.flat (.slice none 0 0))] [] (.flat (.bool a.isNone)) []:=Tri.val fun M w G ρ hv=>
 ⟨_,ic_ w ρ hv.one hv.2.one ht ty',by simp only [Rep]⟩
theorem T.eqNilS {t e ty':TypeId} {f:Bool} {n len:Nat} {cs:List D} (x:Operand) (ht:P.underlying t=some (.slice e)) (hl:0<len) (hn:0<n):
  Tri P N ⟨dst,.binOp .eql t x (.const (.slice none 0 0)) ty',ty,pos,af,gd⟩ [(x,.sl f n len cs),(.const (.slice none 0 0),.flat (.slice none 0 0))] [] (.flat (.bool false)) []:=Tri.val fun M w G ρ hv=>by
 have q1:=hv.1
 simp only [Rep] at q1
 obtain⟨a,cap,r1,_,_,_,_,r6⟩:=q1
 rcases r6 with r6| ⟨b,o,rfl,_⟩
 ·have:=Nat.mul_pos hl hn;omega
 ·exact⟨_,ic_ w ρ r1 hv.2.one ht ty',by simp only [Rep];rfl⟩
theorem Le.empty {a:Option Addr} {c n:Nat}:Le (.flat (.slice a 0 c)) (.sl false n 0 []):=fun M w G v _ h=>by
 simp only [Rep] at h ⊢
 exact⟨a,c,h,Nat.zero_le _,fun e=>(by cases e),by simp,by omega,.inl (by simp)⟩
theorem DW.flatten {Q:Exit→DS→Prop} {c:Code} {f:Fr} {σ:Sg} (t:Nat) {q:Bool} {n:Nat} {cs:List D} (ht:lkF f t= .sl q n 0 cs) (h:∀ a cap,DW P N c ⟨(t,.flat (.slice a 0 cap))::f,σ⟩ Q):DW P N c ⟨f,σ⟩ Q:=by
 refine⟨fun w0 M0 B0 a w ⟨g,hs⟩=>?_⟩
 have h1:=hs.tm t
 rw [ht] at h1
 simp only [Rep] at h1
 obtain⟨ad,cap,r1,_⟩:=h1
 exact (h ad cap).go w0 M0 B0 a w ⟨g,StG.setF hs t _ (by simp only [Rep];exact r1)⟩
end
theorem T.neqSame {P:Program} {N:Nat} {dst:Option Tmp} {ty:TypeId} {pos:String} {af:Array Edge} {gd:Option (Nat × Bool)} {a:Bool} {t ty':TypeId} (x y:Operand) (ht:P.underlying t=some .bool):Tri P N ⟨dst,.binOp .neq t x y ty',ty,pos,af,gd⟩ [(x,.flat (.bool a)),(y,.flat (.bool a))] [] (.flat (.bool false)) []:=Tri.val fun M w G ρ hv=>by
 have he:(Op.equal t (.bool a) (.bool a)).run P w= .ok (a == a) w:=run_equalIn_bool w _ t a a ht
 exact⟨.bool false,by simp [execOp,hv.one,hv.2.one,eqGuard,binOp,he],by simp only [Rep]⟩
end Go.Dm
