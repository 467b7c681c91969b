/- A machine over data: rules that find their types by themselves, and the walker. No condition. -/
import Derived.Test.YtichhfbkhnimmaaUMp
set_option linter.unusedSimpArgs false
set_option linter.unusedVariables false
set_option linter.unusedSectionVars false
set_option maxHeartbeats 400000
set_option maxRecDepth 8000
namespace Go.Dm
open Go Go.RowKit Go.PP
variable [GlobW]
class TyI (P:Program) (t:TypeId) (b:outParam Bool) (n:outParam Nat):Prop where
 ag:aggOf P t=some b
 sz:sizeOfT P t=some n
class TySl (P:Program) (t:TypeId) (e:outParam TypeId):Prop where
 h:P.underlying t=some (.slice e)
class TyBo (P:Program) (t:TypeId):Prop where
 h:P.underlying t=some .bool
class TyPtr (P:Program) (t:TypeId) (e:outParam TypeId):Prop where
 h:P.underlying t=some (.pointer e)
class TyInt (P:Program) (t:TypeId) (k:outParam IntKind):Prop where
 h:P.underlying t=some (.int k)
class TyMap (P:Program) (t:TypeId) (k e:outParam TypeId):Prop where
 h:P.underlying t=some (.map k e)
class TyZ (P:Program) (t:TypeId) (z:outParam Value):Prop where
 h:zeroT P t=some z
class TyIn (P:Program) (t:TypeId) (z:outParam Value) (n bytes:outParam Nat):Prop where
 h:(P.info? t).map (fun i=>(i.zero,i.size,i.bytes))=some (some z,n,bytes)
class TyFd (P:Program) (t i:Nat) (off n:outParam Nat):Prop where
 h:FieldAt P t i off n
class TyPl (P:Program) (t:TypeId) (pl:outParam (List (Nat × Nat))):Prop where
 h:∃ fs:List Field,P.underlying t=some (.struct fs.toArray)∧placesD P fs=some pl
class EntC (P:Program) (k:FuncId):Prop where
 h:Enters P k
structure OwnAt (k:Nat):Prop where
structure IdAt (k id:Nat):Prop where
theorem OwnAt.of (k:Nat):OwnAt k:=⟨⟩
theorem IdAt.of (k id:Nat):IdAt k id:=⟨⟩
section
variable [Rnd] {P:Program} {N:Nat} {dst:Option Tmp} {ty:TypeId} {pos:String} {af:Array Edge} {gd:Option (Nat × Bool)}
theorem xo_ {a b:Bool} {t:TypeId} (w:World) (ht:P.underlying t=some .bool):(Op.equal t (.bool a) (.bool b)).run P w= .ok (a == b) w:=run_equalIn_bool w _ t a b ht
theorem T.neqB {a b:Bool} {t ty':TypeId} (x y:Operand) (ht:P.underlying t=some .bool):Tri P N ⟨dst,.binOp .neq t x y ty',ty,pos,af,gd⟩ [(x,.flat (.bool a)),(y,.flat (.bool b))] [] (.flat (.bool (!(a == b)))) []:=Tri.val fun M w G ρ hv=>
 ⟨.bool (!(a == b)),by simp [execOp,hv.one,hv.2.one,eqGuard,binOp,xo_ (P:=P) w ht],by simp only [Rep]⟩
theorem T.buildS1P {pl:List (Nat × Nat)} {z:Value} {cs:List D} {i:Nat} {d:D} {t:TypeId} {x:Operand} (hp:∃ fs:List Field,P.underlying t=some (.struct fs.toArray)∧placesD P fs=some pl) (hz:zeroT P t=some z)
  (h:fillD (fun i=>pl[i]?) (flats z.cells) [(i,d)]=some cs):Tri P N ⟨dst,.build t #[(i,x)],ty,pos,af,gd⟩ [(x,d)] [] (.agg cs) []:=by
 obtain⟨fs,h1,h2⟩:=hp
 exact T.buildS t [(i,x,d)] h1 hz h2 h
theorem T.buildS2P {pl:List (Nat × Nat)} {z:Value} {cs:List D} {i j:Nat} {d e:D} {t:TypeId} {x y:Operand} (hp:∃ fs:List Field,P.underlying t=some (.struct fs.toArray)∧placesD P fs=some pl) (hz:zeroT P t=some z)
  (h:fillD (fun i=>pl[i]?) (flats z.cells) [(i,d),(j,e)]=some cs):Tri P N ⟨dst,.build t #[(i,x),(j,y)],ty,pos,af,gd⟩ [(x,d),(y,e)] [] (.agg cs) []:=by
 obtain⟨fs,h1,h2⟩:=hp
 exact T.buildS t [(i,x,d),(j,y,e)] h1 hz h2 h
theorem T.buildS3P {pl:List (Nat × Nat)} {z:Value} {cs:List D} {i j k:Nat} {d e f:D} {t:TypeId} {x y u:Operand} (hp:∃ fs:List Field,P.underlying t=some (.struct fs.toArray)∧placesD P fs=some pl) (hz:zeroT P t=some z)
  (h:fillD (fun i=>pl[i]?) (flats z.cells) [(i,d),(j,e),(k,f)]=some cs):Tri P N ⟨dst,.build t #[(i,x),(j,y),(k,u)],ty,pos,af,gd⟩ [(x,d),(y,e),(u,f)] [] (.agg cs) []:=by
 obtain⟨fs,h1,h2⟩:=hp
 exact T.buildS t [(i,x,d),(j,y,e),(k,u,f)] h1 hz h2 h
theorem T.buildS0P {pl:List (Nat × Nat)} {z:Value} {t:TypeId} (hp:∃ fs:List Field,P.underlying t=some (.struct fs.toArray)∧placesD P fs=some pl) (hz:zeroT P t=some z):Tri P N ⟨dst,.build t #[],ty,pos,af,gd⟩ [] [] (.agg (flats z.cells)) []:=by
 obtain⟨fs,h1,h2⟩:=hp
 exact T.buildS0 t h1 hz h2
theorem T.allocD {k:Nat} {z:Value} {t:TypeId} (hz:zeroT P t=some z) (hid:newId N k=true:=by first|exact rfl|decide +kernel):Tri P N ⟨some k,.alloc t,ty,pos,af,gd⟩ [] [(k,none)] (.ref k 0) [(k,some (.box (flats z.cells)))]:=T.alloc k t hz hid
theorem T.allocA {k id:Nat} {z:Value} {t:TypeId} (hm:IdAt k id) (hz:zeroT P t=some z) (hid:newId N id=true:=by first|exact rfl|decide +kernel):Tri P N ⟨some k,.alloc t,ty,pos,af,gd⟩ [] [(id,none)] (.ref id 0) [(id,some (.box (flats z.cells)))]:=T.alloc id t hz hid
theorem T.boxD {k:Nat} {d:D} {ds:List D} {t:TypeId} {x:Operand} (hc:cellsD d=some ds) (hid:newId N k=true:=by first|exact rfl|decide +kernel) (hk:keysOf ds=none:=by first|rfl|assumption):Tri P N ⟨some k,.box t x,ty,pos,af,gd⟩ [(x,d)] [(k,none)] (.ref k 0) [(k,some (.box ds))]:=T.box k t x hc hid hk
theorem T.boxA {k id:Nat} {d:D} {ds:List D} {t:TypeId} {x:Operand} (hm:IdAt k id) (hc:cellsD d=some ds) (hid:newId N id=true:=by first|exact rfl|decide +kernel) (hk:keysOf ds=none:=by first|rfl|assumption):Tri P N ⟨some k,.box t x,ty,pos,af,gd⟩ [(x,d)] [(id,none)] (.ref id 0) [(id,some (.box ds))]:=T.box id t x hc hid hk
theorem T.makeSlD {k e n bytes:Nat} {z:Value} {kl kc:IntKind} {t:TypeId} {x y:Operand} (ht:P.underlying t=some (.slice e)) (hinfo:(P.info? e).map (fun i=>(i.zero,i.size,i.bytes))=some (some z,1,bytes)) (hz1:z.cells= #[z])
 (hb:bytes*n≤281474976710656) (hn:n≤maxLen) (hid:newId N k=true:=by first|exact rfl|decide +kernel):
 Tri P N ⟨some k,.makeSlice t x y,ty,pos,af,gd⟩ [(x,.flat (.int kl n)),(y,.flat (.int kc n))] [(k,none)] (.own k n) [(k,some (.row e 1 n (List.replicate n (.flat z))))]:=T.makeSl k t x y ht hinfo hz1 hb hn hid
theorem T.makeSlA {k id e n bytes:Nat} {z:Value} {kl kc:IntKind} {t:TypeId} {x y:Operand} (hm:IdAt k id) (ht:P.underlying t=some (.slice e)) (hinfo:(P.info? e).map (fun i=>(i.zero,i.size,i.bytes))=some (some z,1,bytes)) (hz1:z.cells= #[z])
 (hb:bytes*n≤281474976710656) (hn:n≤maxLen) (hid:newId N id=true:=by first|exact rfl|decide +kernel):
 Tri P N ⟨some k,.makeSlice t x y,ty,pos,af,gd⟩ [(x,.flat (.int kl n)),(y,.flat (.int kc n))] [(id,none)] (.own id n) [(id,some (.row e 1 n (List.replicate n (.flat z))))]:=T.makeSl id t x y ht hinfo hz1 hb hn hid
theorem T.makeBslA {k id e n bytes:Nat} {z:Value} {kl kc:IntKind} {lz cz:Int} {t:TypeId} {x y:Operand} (hm:BoxAt k id) (ht:P.underlying t=some (.slice e)) (hinfo:(P.info? e).map (fun i=>(i.zero,i.size,i.bytes))=some (some z,1,bytes)) (hz1:z.cells= #[z])
 (n1:IsN lz n) (n2:IsN cz n) (hb:bytes*n≤281474976710656) (hn:n≤maxLen) (hid:newId N id=true:=by first|exact rfl|decide +kernel):
 Tri P N ⟨some k,.makeSlice t x y,ty,pos,af,gd⟩ [(x,.flat (.int kl lz)),(y,.flat (.int kc cz))] [(id,none)] (.bsl id 0 n n) [(id,some (.box (List.replicate n (.flat z))))]:=T.makeBsl id t x y ht hinfo hz1 n1 n2 hb hn hid
theorem T.buildOwnA0 {k id n e:Nat} {z:Value} {t:TypeId} (hm:IdAt k id) (ht:P.underlying t=some (.slice e)) (hz:zeroT P e=some z) (hn:sizeOfT P e=some n) (hid:newId N id=true:=by first|exact rfl|assumption|decide +kernel):
 Tri P N ⟨some k,.buildSlice t 0 #[],ty,pos,af,gd⟩ [] [(id,none)] (.own id 0) [(id,some (.row e n 0 []))]:=T.buildOwn0 id t ht hz hn hid
theorem T.buildOwnA1 {k id n e:Nat} {z:Value} {cs:List D} {d:D} {t:TypeId} {x:Operand} (hm:IdAt k id) (ht:P.underlying t=some (.slice e)) (hz:zeroT P e=some z) (hn:sizeOfT P e=some n) (hd:cellsD d=some cs) (hl:cs.length=n) (hs:n≤16777216) (hid:newId N id=true:=by first|exact rfl|assumption|decide +kernel):
 Tri P N ⟨some k,.buildSlice t 1 #[(0,x)],ty,pos,af,gd⟩ [(x,d)] [(id,none)] (.own id 1) [(id,some (.row e n 1 cs))]:=T.buildOwn1 id t x ht hz hn hd hl hs hid
theorem T.makeMapD {k:Nat} {t:TypeId} (hid:newId N k=true:=by first|exact rfl|assumption|decide +kernel):
 Tri P N ⟨some k,.makeMap t none,ty,pos,af,gd⟩ [] [(k,none)] (.mp k) [(k,some (.box [.keys []]))]:=T.makeMap k t hid
end
section
variable [Rnd] {P:Program} {N:Nat} {dst:Option Tmp} {ty:TypeId} {pos:String} {af:Array Edge} {gd:Option (Nat × Bool)} {pe lp:Sg}
theorem VlL.cons {d e:D} {ds es:List D} (h:Vl pe d e) (t:VlL pe ds es):VlL pe (d::ds) (e::es):=⟨h,t⟩
theorem Vl.mp {id:Nat} {cs:List D} (hm:fnd pe id=some (some (.box cs))):Vl pe (.mp id) (.mp id):=fun M w g σ he _ v hv=>by
 simp only [Rep] at hv ⊢
 obtain⟨g',σ1,cs1,hG,h1,h2⟩:=hv
 cases hG
 exact⟨g,pe,cs,rfl,gr_ hm,h2⟩
theorem EsL.none' {id:Nat} {r:Sg} (t:EsL lp r):EsL lp ((id,none)::r):=⟨trivial,t⟩
theorem EsL.box' {id:Nat} {cs:List D} {r:Sg} (h:VlL lp cs cs) (t:EsL lp r):EsL lp ((id,some (.box cs))::r):=⟨h,t⟩
theorem EsL.row' {id e n L:Nat} {cs:List D} {r:Sg} (h:VlL lp cs cs) (t:EsL lp r):EsL lp ((id,some (.row e n L cs))::r):=⟨h,t⟩
theorem T.lendA {k:FuncId} {ar:List Operand} {ts:Array TypeId} {ds:List D} {d:D} {lw:Sg} (he:Enters P k) (hf:DLend P k ds lp lw d) (hl:ar.length=ds.length) (hp:VlL lp ds ds) (hkeys:keys lp=keys lw) (hnew:(lp.all fun p=>p.2.isSome || newId N p.1)=true) (hE:EsL lp lp):
  Tri P N ⟨dst,.call { callee:= .value (.func k),args:=ar.toArray,argTypes:=ts },ty,pos,af,gd⟩ (ar.zip ds) lp d lw:=by
 have h:=T.lend (dst:=dst) (ty:=ty) (pos:=pos) (af:=af) (gd:=gd) (ts:=ts) (N:=N) [] he hf hl (VgL.of hp) hkeys hnew rfl (fun _ _=>rfl) (EsG.of hE)
 simpa only [List.append_nil,deads,List.map_nil] using h
theorem T.lendCA {k:FuncId} {x:Operand} {ar:List Operand} {ts:Array TypeId} {first cap ds:List D} {d:D} {lw:Sg} (he:Enters P k) (hf:DLend P k (first++ds++cap) lp lw d) (hl:ar.length=ds.length) (hp:VlL lp (first++ds++cap) (first++ds++cap)) (hkeys:keys lp=keys lw) (hnew:(lp.all fun p=>p.2.isSome || newId N p.1)=true) (hE:EsL lp lp):
  Tri P N ⟨dst,.call { callee:= .value x,args:=ar.toArray,argTypes:=ts },ty,pos,af,gd⟩ ((x,.clo (.func k) first cap)::ar.zip ds) lp d lw:=by
 have h:=T.lendC (x:=x) (dst:=dst) (ty:=ty) (pos:=pos) (af:=af) (gd:=gd) (ts:=ts) (N:=N) [] he hf hl (VgL.of hp) hkeys hnew rfl (fun _ _=>rfl) (EsG.of hE)
 simpa only [List.append_nil,deads,List.map_nil] using h
theorem T.callCA {k:FuncId} {x:Operand} {ar:List Operand} {ts:Array TypeId} {first cap ds:List D} {d:D} (he:Enters P k) (hf:DFun P k (first++ds++cap) d) (hl:ar.length=ds.length) (hp:persL (first++ds++cap)=true) (hd:noMem d=true):
 Tri P N ⟨dst,.call { callee:= .value x,args:=ar.toArray,argTypes:=ts },ty,pos,af,gd⟩ ((x,.clo (.func k) first cap)::ar.zip ds) [] d []:=T.callC [] he hf hl (VwL.pers hp) hd
end
def KR (Q:Exit→DS→Prop):DS→List Sd→Prop:=fun s' _=>Q .normal s'
def KD (l:List Oper) (Q:Exit→DS→Prop):DS→List Sd→Prop:=fun s' qs=>rOk (masks .any l []) (qs.map Sd.fp)=true∧Q .normal s'
section
variable [Rnd] {P:Program} {N:Nat} {Q:Exit→DS→Prop} {s s':DS}
theorem DW.regR {id:Nat} {l:List Oper} (h:DC P N l.toArray 0 l s [] (KR Q)):DW P N (.region id l.toArray false) s Q:=DW.regionC h
theorem DW.regD {id:Nat} {l:List Oper} (hm:P.follows .mixedOrders=true) (hlt:((List.range l.length).all fun i=>((l[i]?).map fun o=>o.after.all fun e=>!Region.binds .any e || decide (e.on<i)).getD true)=true)
 (h:DC P N l.toArray 0 l s [] (KD l Q)):DW P N (.region id l.toArray true) s Q:=DW.drawnC hm hlt h
theorem DC.endR {i:Nat} {ops:Array Oper} {acc:List Sd} (h:Q .normal s') (hs:s=s':=by first|(dsimp only [evalD,lkF,lkE,updF,Nat.beq,Nat.reduceBEq,cond_true,cond_false,List.cons_append,List.nil_append,List.append_nil,argF,Nat.reduceAdd,Nat.reduceMul,spliceD,List.take,List.drop,List.length,flats,Value.cells,List.map,List.set] <;> fail)|exact rfl|fail):DC P N ops i [] s acc (KR Q):=by subst hs;exact DC.nil h
theorem DC.endD {i:Nat} {l:List Oper} {ops:Array Oper} {acc:List Sd} (h:Q .normal s') (hs:s=s':=by first|(dsimp only [evalD,lkF,lkE,updF,Nat.beq,Nat.reduceBEq,cond_true,cond_false,List.cons_append,List.nil_append,List.append_nil,argF,Nat.reduceAdd,Nat.reduceMul,spliceD,List.take,List.drop,List.length,flats,Value.cells,List.map,List.set] <;> fail)|exact rfl|fail) (hr:rOk (masks .any l []) (acc.reverse.map Sd.fp)=true:=by kernel_rfl):DC P N ops i [] s acc (KD l Q):=by subst hs;exact DC.nil ⟨hr,h⟩
theorem DC.isOp {ops:Array Oper} {i:Nat} {o:Oper} {l:List Oper} {s:DS} {acc:List Sd} {K:DS→List Sd→Prop} (h:DC P N ops i (o::l) s acc K):DC P N ops i (o::l) s acc K:=h
structure Hid (R:Prop):Prop where
 out:R
theorem DC.t {ops:Array Oper} {i:Nat} {o:Oper} {l:List Oper} {s:DS} {acc:List Sd} {K:DS→List Sd→Prop} {pf gp:List (Operand × D)} {pe:List (Nat × Option Ent)} {d:D} {we:Sg} (ht:Tri P N o pf pe d we) (h1:Evs s.f pf) (h2:Ens s.σ pe)
 (hk:DC P N ops (i+1) l ⟨updF s.f o.dst d,we++s.σ⟩ (⟨o.dst,gp++pf,pe,d,we⟩::acc) K) (hg:GuardOk ops o s.f gp:=by first|exact .none rfl|exact .on rfl rfl rfl (by first|with_reducible rfl|with_reducible assumption|(refine decide_eq_true ?_;first|omega|with_reducible assumption|fail)|(refine decide_eq_false ?_;first|omega|with_reducible assumption|fail)|decide|(simp only [Bool.and_true,Bool.true_and,Bool.and_false,Bool.false_and,Bool.or_true,Bool.true_or,Bool.or_false,Bool.false_or,Bool.not_true,Bool.not_false,Option.isNone_none,Option.isNone_some,beq_self_eq_true] <;> fail)|fail)|fail) (hd:dstOk N o.dst=true:=by rfl):DC P N ops i (o::l) s acc K:=DC.tri ht h1 h2 hk hg hd
def idsOf (σ:Sg):Nat→List D→List Nat
 |0,_=> []
 |_,[]=> []
 |n  +1,   d::ds=>(match d with
     | .own id _=> [id]
     | .ref id _=>id::(match lkE σ id with
          |some (.box cs)=>idsOf σ n cs
          |_=> [])
     |_=> [])++idsOf σ n ds
def peOf (σ:Sg) (ds:List D):Sg:=(idsOf σ 8 ds).map fun i=>(i,lkE σ i)
theorem IsN.auto {z:Int} {n:Nat} (h:IsN z n:=by first|(first|(first|with_reducible exact IsN.c _|with_reducible exact IsN.l _|((with_reducible refine IsN.sub (IsN.c _) (IsN.lit _ rfl) ?_) <;> omega)|((with_reducible refine IsN.sub (IsN.c _) (IsN.c _) ?_) <;> omega)|((with_reducible refine IsN.sub (IsN.l _) (IsN.c _) ?_) <;> omega))|(apply IsN.add <;> (first|with_reducible exact IsN.c _|with_reducible exact IsN.l _|((with_reducible refine IsN.sub (IsN.c _) (IsN.lit _ rfl) ?_) <;> omega)|((with_reducible refine IsN.sub (IsN.c _) (IsN.c _) ?_) <;> omega)|((with_reducible refine IsN.sub (IsN.l _) (IsN.c _) ?_) <;> omega)))|(apply IsN.mul <;> (first|with_reducible exact IsN.c _|with_reducible exact IsN.l _|((with_reducible refine IsN.sub (IsN.c _) (IsN.lit _ rfl) ?_) <;> omega)|((with_reducible refine IsN.sub (IsN.c _) (IsN.c _) ?_) <;> omega)|((with_reducible refine IsN.sub (IsN.l _) (IsN.c _) ?_) <;> omega))))|((with_reducible refine IsN.sub (IsN.add (IsN.c _) (IsN.c _)) (IsN.lit _ rfl) ?_) <;> omega)|((with_reducible refine IsN.sub (IsN.add (IsN.c _) (IsN.c _)) (IsN.c _) ?_) <;> omega)|(apply IsN.add <;> (first|(first|with_reducible exact IsN.c _|with_reducible exact IsN.l _|((with_reducible refine IsN.sub (IsN.c _) (IsN.lit _ rfl) ?_) <;> omega)|((with_reducible refine IsN.sub (IsN.c _) (IsN.c _) ?_) <;> omega)|((with_reducible refine IsN.sub (IsN.l _) (IsN.c _) ?_) <;> omega))|(apply IsN.add <;> (first|with_reducible exact IsN.c _|with_reducible exact IsN.l _|((with_reducible refine IsN.sub (IsN.c _) (IsN.lit _ rfl) ?_) <;> omega)|((with_reducible refine IsN.sub (IsN.c _) (IsN.c _) ?_) <;> omega)|((with_reducible refine IsN.sub (IsN.l _) (IsN.c _) ?_) <;> omega)))|(apply IsN.mul <;> (first|with_reducible exact IsN.c _|with_reducible exact IsN.l _|((with_reducible refine IsN.sub (IsN.c _) (IsN.lit _ rfl) ?_) <;> omega)|((with_reducible refine IsN.sub (IsN.c _) (IsN.c _) ?_) <;> omega)|((with_reducible refine IsN.sub (IsN.l _) (IsN.c _) ?_) <;> omega)))))|(apply IsN.mul <;> (first|(first|with_reducible exact IsN.c _|with_reducible exact IsN.l _|((with_reducible refine IsN.sub (IsN.c _) (IsN.lit _ rfl) ?_) <;> omega)|((with_reducible refine IsN.sub (IsN.c _) (IsN.c _) ?_) <;> omega)|((with_reducible refine IsN.sub (IsN.l _) (IsN.c _) ?_) <;> omega))|(apply IsN.add <;> (first|with_reducible exact IsN.c _|with_reducible exact IsN.l _|((with_reducible refine IsN.sub (IsN.c _) (IsN.lit _ rfl) ?_) <;> omega)|((with_reducible refine IsN.sub (IsN.c _) (IsN.c _) ?_) <;> omega)|((with_reducible refine IsN.sub (IsN.l _) (IsN.c _) ?_) <;> omega)))|(apply IsN.mul <;> (first|with_reducible exact IsN.c _|with_reducible exact IsN.l _|((with_reducible refine IsN.sub (IsN.c _) (IsN.lit _ rfl) ?_) <;> omega)|((with_reducible refine IsN.sub (IsN.c _) (IsN.c _) ?_) <;> omega)|((with_reducible refine IsN.sub (IsN.l _) (IsN.c _) ?_) <;> omega)))))|exact IsN.c _|exact IsN.l _|exact IsN.toNat (by omega)):IsN z n:=h
theorem VlL.auto {pe:Sg} {ds es:List D} (h:VlL pe ds es:=by repeat (first|exact trivial|refine VlL.cons (by first|exact Vl.pers (by first|rfl|assumption|exact PersL.h|exact PersD.h)|exact Vl.ref rfl|exact Vl.bsl rfl|exact Vl.own rfl|exact Vl.mp rfl|exact Vl.yl rfl|exact Vl.clo (VlL.pers rfl) (by repeat (first|exact trivial|refine VlL.cons (by first|exact Vl.pers (by first|rfl|assumption|exact PersL.h|exact PersD.h)|exact Vl.ref rfl|exact Vl.bsl rfl|exact Vl.own rfl|exact Vl.mp rfl) ?_))) ?_)):VlL pe ds es:=h
theorem EsL.auto {lp r:Sg} (h:EsL lp r:=by repeat (first|exact trivial|refine EsL.none' ?_|refine EsL.rec' (by repeat (first|exact FVl.nil'|refine FVl.cons' (by first|exact Vl.pers (by first|rfl|assumption|exact PersL.h|exact PersD.h)|exact Vl.ref rfl|exact Vl.bsl rfl|exact Vl.own rfl|exact Vl.mp rfl|exact Vl.yl rfl) ?_)) ?_|refine EsL.dead' ?_|refine EsL.box' (by first|exact VlL.pers (by first|rfl|assumption|exact PersL.h|exact PersD.h)|exact MpC.vl' rfl|exact VlL.auto) ?_|refine EsL.row' (by first|exact VlL.pers (by first|rfl|assumption|exact bD_pers _|exact ac_ (fun _=>rfl) _|exact PersL.h|exact PersD.h)|exact VlL.auto) ?_)):EsL lp r:=h
theorem DC.k_move {ops:Array Oper} {i:Nat} {dst:Option Tmp} {ty:TypeId} {pos:String} {af:Array Edge} {gd:Option (Nat × Bool)} {l:List Oper} {s:DS} {acc:List Sd} {K:DS→List Sd→Prop} {x:Operand} {R:Prop} (k:R) (h:Hid R→DC P N ops i (⟨dst,.move x,ty,pos,af,gd⟩::l) s acc K:=by
 intro hR
 first
  |(refine DC.t (T.move _ _) ⟨rfl,trivial⟩ trivial ?_;exact hR.out)
 ):DC P N ops i (⟨dst,.move x,ty,pos,af,gd⟩::l) s acc K:=h ⟨k⟩
theorem DC.is_move {ops:Array Oper} {i:Nat} {dst:Option Tmp} {ty:TypeId} {pos:String} {af:Array Edge} {gd:Option (Nat × Bool)} {l:List Oper} {s:DS} {acc:List Sd} {K:DS→List Sd→Prop} {x:Operand} (h:DC P N ops i (⟨dst,.move x,ty,pos,af,gd⟩::l) s acc K):DC P N ops i (⟨dst,.move x,ty,pos,af,gd⟩::l) s acc K:=h
theorem DC.k_assign {ops:Array Oper} {i:Nat} {dst:Option Tmp} {ty:TypeId} {pos:String} {af:Array Edge} {gd:Option (Nat × Bool)} {l:List Oper} {s:DS} {acc:List Sd} {K:DS→List Sd→Prop} {x:Operand} {R:Prop} (k:R) (h:Hid R→DC P N ops i (⟨dst,.assign x,ty,pos,af,gd⟩::l) s acc K:=by
 intro hR
 first
  |(refine DC.t (T.assign _ _) ⟨rfl,trivial⟩ trivial ?_;exact hR.out)
 ):DC P N ops i (⟨dst,.assign x,ty,pos,af,gd⟩::l) s acc K:=h ⟨k⟩
theorem DC.is_assign {ops:Array Oper} {i:Nat} {dst:Option Tmp} {ty:TypeId} {pos:String} {af:Array Edge} {gd:Option (Nat × Bool)} {l:List Oper} {s:DS} {acc:List Sd} {K:DS→List Sd→Prop} {x:Operand} (h:DC P N ops i (⟨dst,.assign x,ty,pos,af,gd⟩::l) s acc K):DC P N ops i (⟨dst,.assign x,ty,pos,af,gd⟩::l) s acc K:=h
theorem DC.k_load {ops:Array Oper} {i:Nat} {dst:Option Tmp} {ty:TypeId} {pos:String} {af:Array Edge} {gd:Option (Nat × Bool)} {l:List Oper} {s:DS} {acc:List Sd} {K:DS→List Sd→Prop} {t:TypeId} {x:Operand} {R:Prop} (k:R) (h:Hid R→DC P N ops i (⟨dst,.load t x,ty,pos,af,gd⟩::l) s acc K:=by
 intro hR
 first
  |(refine DC.t (T.loadPtr _ _ TyI.ag TyI.sz (by first|exact LoadD.h|rfl|assumption)) ⟨rfl,trivial⟩ trivial ?_;exact hR.out)
  |(refine DC.t (T.loadRef _ _ TyI.ag TyI.sz (by first|exact LoadD.h|rfl|assumption)) ⟨rfl,trivial⟩ ⟨rfl,trivial⟩ ?_;exact hR.out)
  |(refine DC.t (T.loadElp _ _ TyI.ag TyI.sz (by first|exact LoadD.h|rfl|assumption)) ⟨rfl,trivial⟩ ⟨rfl,trivial⟩ ?_;exact hR.out)
 ):DC P N ops i (⟨dst,.load t x,ty,pos,af,gd⟩::l) s acc K:=h ⟨k⟩
theorem DC.is_load {ops:Array Oper} {i:Nat} {dst:Option Tmp} {ty:TypeId} {pos:String} {af:Array Edge} {gd:Option (Nat × Bool)} {l:List Oper} {s:DS} {acc:List Sd} {K:DS→List Sd→Prop} {t:TypeId} {x:Operand} (h:DC P N ops i (⟨dst,.load t x,ty,pos,af,gd⟩::l) s acc K):DC P N ops i (⟨dst,.load t x,ty,pos,af,gd⟩::l) s acc K:=h
theorem DC.k_store {ops:Array Oper} {i:Nat} {dst:Option Tmp} {ty:TypeId} {pos:String} {af:Array Edge} {gd:Option (Nat × Bool)} {l:List Oper} {s:DS} {acc:List Sd} {K:DS→List Sd→Prop} {t:TypeId} {x y:Operand} {R:Prop} (k:R) (h:Hid R→DC P N ops i (⟨dst,.store t x y,ty,pos,af,gd⟩::l) s acc K:=by
 intro hR
 first
  |(refine DC.t (T.storeRefS _ _ _ inferInstance TyI.sz rfl (by first|rfl|assumption|(first|(simp <;> fail)|fail)) (by first|rfl|assumption|simp [oneL,oneD,Value.oneCell']) (by first|decide|(first|(simp <;> fail)|fail)|omega|(simp;omega))) ⟨rfl,rfl,trivial⟩ ⟨rfl,trivial⟩ ?_;exact hR.out)
  |(refine DC.t (T.storeElpS _ _ _ inferInstance TyI.sz rfl (by first|rfl|assumption|(first|(simp <;> fail)|fail)) (by first|rfl|assumption|simp [oneL,oneD,Value.oneCell']) (by first|decide|(first|(simp <;> fail)|fail)|omega|(simp;omega))) ⟨rfl,rfl,trivial⟩ ⟨rfl,trivial⟩ ?_;exact hR.out)
 ):DC P N ops i (⟨dst,.store t x y,ty,pos,af,gd⟩::l) s acc K:=h ⟨k⟩
theorem DC.is_store {ops:Array Oper} {i:Nat} {dst:Option Tmp} {ty:TypeId} {pos:String} {af:Array Edge} {gd:Option (Nat × Bool)} {l:List Oper} {s:DS} {acc:List Sd} {K:DS→List Sd→Prop} {t:TypeId} {x y:Operand} (h:DC P N ops i (⟨dst,.store t x y,ty,pos,af,gd⟩::l) s acc K):DC P N ops i (⟨dst,.store t x y,ty,pos,af,gd⟩::l) s acc K:=h
theorem DC.k_fieldAddr {ops:Array Oper} {i:Nat} {dst:Option Tmp} {ty:TypeId} {pos:String} {af:Array Edge} {gd:Option (Nat × Bool)} {l:List Oper} {s:DS} {acc:List Sd} {K:DS→List Sd→Prop} {t j:Nat} {x:Operand} {R:Prop} (k:R) (h:Hid R→DC P N ops i (⟨dst,.fieldAddr t x j,ty,pos,af,gd⟩::l) s acc K:=by
 intro hR
 first
  |(refine DC.t (T.fieldPtr' _ _ _ TyFd.h (by decide)) ⟨rfl,trivial⟩ trivial ?_;exact hR.out)
  |(refine DC.t (T.fieldRef' _ _ _ TyFd.h (by decide)) ⟨rfl,trivial⟩ trivial ?_;exact hR.out)
  |(refine DC.t (T.fieldElp' _ _ _ TyFd.h (by decide)) ⟨rfl,trivial⟩ ⟨rfl,trivial⟩ ?_;exact hR.out)
 ):DC P N ops i (⟨dst,.fieldAddr t x j,ty,pos,af,gd⟩::l) s acc K:=h ⟨k⟩
theorem DC.is_fieldAddr {ops:Array Oper} {i:Nat} {dst:Option Tmp} {ty:TypeId} {pos:String} {af:Array Edge} {gd:Option (Nat × Bool)} {l:List Oper} {s:DS} {acc:List Sd} {K:DS→List Sd→Prop} {t j:Nat} {x:Operand} (h:DC P N ops i (⟨dst,.fieldAddr t x j,ty,pos,af,gd⟩::l) s acc K):DC P N ops i (⟨dst,.fieldAddr t x j,ty,pos,af,gd⟩::l) s acc K:=h
theorem DC.k_indexAddr {ops:Array Oper} {i:Nat} {dst:Option Tmp} {ty:TypeId} {pos:String} {af:Array Edge} {gd:Option (Nat × Bool)} {l:List Oper} {s:DS} {acc:List Sd} {K:DS→List Sd→Prop} {t:TypeId} {x y:Operand} {R:Prop} (k:R) (h:Hid R→DC P N ops i (⟨dst,.indexAddr t x y,ty,pos,af,gd⟩::l) s acc K:=by
 intro hR
 first
  |(refine DC.t (T.indexSlN _ _ _ TySl.h TyI.sz IsN.auto (by omega) (by decide)) ⟨rfl,rfl,trivial⟩ trivial ?_;exact hR.out)
  |(refine DC.t (T.indexOwnN _ _ _ TySl.h TyI.sz IsN.auto (by omega)) ⟨rfl,rfl,trivial⟩ ⟨rfl,trivial⟩ ?_;exact hR.out)
  |(refine DC.t (T.indexBsl _ _ _ TySl.h TyI.sz IsN.auto (by omega)) ⟨rfl,rfl,trivial⟩ trivial ?_;exact hR.out)
  |(refine DC.t (T.indexArr' _ _ _ TyAr.h TyI.sz IsN.auto (by omega)) ⟨rfl,rfl,trivial⟩ trivial ?_;exact hR.out)
  |(refine DC.t (T.indexArrPtr' _ _ _ TyAr.h TyI.sz IsN.auto (by omega)) ⟨rfl,rfl,trivial⟩ trivial ?_;exact hR.out)
 ):DC P N ops i (⟨dst,.indexAddr t x y,ty,pos,af,gd⟩::l) s acc K:=h ⟨k⟩
theorem DC.is_indexAddr {ops:Array Oper} {i:Nat} {dst:Option Tmp} {ty:TypeId} {pos:String} {af:Array Edge} {gd:Option (Nat × Bool)} {l:List Oper} {s:DS} {acc:List Sd} {K:DS→List Sd→Prop} {t:TypeId} {x y:Operand} (h:DC P N ops i (⟨dst,.indexAddr t x y,ty,pos,af,gd⟩::l) s acc K):DC P N ops i (⟨dst,.indexAddr t x y,ty,pos,af,gd⟩::l) s acc K:=h
theorem DC.k_lss {ops:Array Oper} {i:Nat} {dst:Option Tmp} {ty:TypeId} {pos:String} {af:Array Edge} {gd:Option (Nat × Bool)} {l:List Oper} {s:DS} {acc:List Sd} {K:DS→List Sd→Prop} {t t2:TypeId} {x y:Operand} {R:Prop} (k:R) (h:Hid R→DC P N ops i (⟨dst,.binOp .lss t x y t2,ty,pos,af,gd⟩::l) s acc K:=by
 intro hR
 first
  |(refine DC.t (T.lss _ _ _ _) ⟨rfl,rfl,trivial⟩ trivial ?_;exact hR.out)
 ):DC P N ops i (⟨dst,.binOp .lss t x y t2,ty,pos,af,gd⟩::l) s acc K:=h ⟨k⟩
theorem DC.is_lss {ops:Array Oper} {i:Nat} {dst:Option Tmp} {ty:TypeId} {pos:String} {af:Array Edge} {gd:Option (Nat × Bool)} {l:List Oper} {s:DS} {acc:List Sd} {K:DS→List Sd→Prop} {t t2:TypeId} {x y:Operand} (h:DC P N ops i (⟨dst,.binOp .lss t x y t2,ty,pos,af,gd⟩::l) s acc K):DC P N ops i (⟨dst,.binOp .lss t x y t2,ty,pos,af,gd⟩::l) s acc K:=h
theorem DC.k_leq {ops:Array Oper} {i:Nat} {dst:Option Tmp} {ty:TypeId} {pos:String} {af:Array Edge} {gd:Option (Nat × Bool)} {l:List Oper} {s:DS} {acc:List Sd} {K:DS→List Sd→Prop} {t t2:TypeId} {x y:Operand} {R:Prop} (k:R) (h:Hid R→DC P N ops i (⟨dst,.binOp .leq t x y t2,ty,pos,af,gd⟩::l) s acc K:=by
 intro hR
 first
  |(refine DC.t (T.leq _ _ _ _) ⟨rfl,rfl,trivial⟩ trivial ?_;exact hR.out)
 ):DC P N ops i (⟨dst,.binOp .leq t x y t2,ty,pos,af,gd⟩::l) s acc K:=h ⟨k⟩
theorem DC.is_leq {ops:Array Oper} {i:Nat} {dst:Option Tmp} {ty:TypeId} {pos:String} {af:Array Edge} {gd:Option (Nat × Bool)} {l:List Oper} {s:DS} {acc:List Sd} {K:DS→List Sd→Prop} {t t2:TypeId} {x y:Operand} (h:DC P N ops i (⟨dst,.binOp .leq t x y t2,ty,pos,af,gd⟩::l) s acc K):DC P N ops i (⟨dst,.binOp .leq t x y t2,ty,pos,af,gd⟩::l) s acc K:=h
theorem DC.k_gtr {ops:Array Oper} {i:Nat} {dst:Option Tmp} {ty:TypeId} {pos:String} {af:Array Edge} {gd:Option (Nat × Bool)} {l:List Oper} {s:DS} {acc:List Sd} {K:DS→List Sd→Prop} {t t2:TypeId} {x y:Operand} {R:Prop} (k:R) (h:Hid R→DC P N ops i (⟨dst,.binOp .gtr t x y t2,ty,pos,af,gd⟩::l) s acc K:=by
 intro hR
 first
  |(refine DC.t (T.gtr _ _ _ _) ⟨rfl,rfl,trivial⟩ trivial ?_;exact hR.out)
 ):DC P N ops i (⟨dst,.binOp .gtr t x y t2,ty,pos,af,gd⟩::l) s acc K:=h ⟨k⟩
theorem DC.is_gtr {ops:Array Oper} {i:Nat} {dst:Option Tmp} {ty:TypeId} {pos:String} {af:Array Edge} {gd:Option (Nat × Bool)} {l:List Oper} {s:DS} {acc:List Sd} {K:DS→List Sd→Prop} {t t2:TypeId} {x y:Operand} (h:DC P N ops i (⟨dst,.binOp .gtr t x y t2,ty,pos,af,gd⟩::l) s acc K):DC P N ops i (⟨dst,.binOp .gtr t x y t2,ty,pos,af,gd⟩::l) s acc K:=h
theorem DC.k_geq {ops:Array Oper} {i:Nat} {dst:Option Tmp} {ty:TypeId} {pos:String} {af:Array Edge} {gd:Option (Nat × Bool)} {l:List Oper} {s:DS} {acc:List Sd} {K:DS→List Sd→Prop} {t t2:TypeId} {x y:Operand} {R:Prop} (k:R) (h:Hid R→DC P N ops i (⟨dst,.binOp .geq t x y t2,ty,pos,af,gd⟩::l) s acc K:=by
 intro hR
 first
  |(refine DC.t (T.geq _ _ _ _) ⟨rfl,rfl,trivial⟩ trivial ?_;exact hR.out)
 ):DC P N ops i (⟨dst,.binOp .geq t x y t2,ty,pos,af,gd⟩::l) s acc K:=h ⟨k⟩
theorem DC.is_geq {ops:Array Oper} {i:Nat} {dst:Option Tmp} {ty:TypeId} {pos:String} {af:Array Edge} {gd:Option (Nat × Bool)} {l:List Oper} {s:DS} {acc:List Sd} {K:DS→List Sd→Prop} {t t2:TypeId} {x y:Operand} (h:DC P N ops i (⟨dst,.binOp .geq t x y t2,ty,pos,af,gd⟩::l) s acc K):DC P N ops i (⟨dst,.binOp .geq t x y t2,ty,pos,af,gd⟩::l) s acc K:=h
theorem DC.k_eql {ops:Array Oper} {i:Nat} {dst:Option Tmp} {ty:TypeId} {pos:String} {af:Array Edge} {gd:Option (Nat × Bool)} {l:List Oper} {s:DS} {acc:List Sd} {K:DS→List Sd→Prop} {t t2:TypeId} {x y:Operand} {R:Prop} (k:R) (h:Hid R→DC P N ops i (⟨dst,.binOp .eql t x y t2,ty,pos,af,gd⟩::l) s acc K:=by
 intro hR
 first
  |(refine DC.t (T.eql _ _ _ _) ⟨rfl,rfl,trivial⟩ trivial ?_;exact hR.out)
  |(refine DC.t (T.eqlH (by assumption)) ⟨rfl,rfl,trivial⟩ trivial ?_;exact hR.out)
  |(refine DC.t (T.eqlArr TyAn.i) ⟨rfl,rfl,trivial⟩ trivial ?_;exact hR.out)
  |(refine DC.t (T.eqlStr _ _ _ _) ⟨rfl,rfl,trivial⟩ trivial ?_;exact hR.out)
  |(refine DC.t (T.eqlPtr TyPtr.h rfl rfl rfl) ⟨rfl,rfl,trivial⟩ trivial ?_;exact hR.out)
  |(refine DC.t (T.eqlSS inferInstance) ⟨rfl,rfl,trivial⟩ trivial ?_;exact hR.out)
  |(refine DC.t (T.eqlIfI TyIf.h TyCi.u TyCi.c) ⟨rfl,rfl,trivial⟩ trivial ?_;exact hR.out)
  |(refine DC.t (T.eqNilS _ TySl.h (by omega) (by decide)) ⟨rfl,rfl,trivial⟩ trivial ?_;exact hR.out)
  |(refine DC.t (T.eqNilF _ TySl.h) ⟨rfl,rfl,trivial⟩ trivial ?_;exact hR.out)
  |(refine DC.t (T.eqNilO _ TySl.h (by omega)) ⟨rfl,rfl,trivial⟩ ⟨rfl,trivial⟩ ?_;exact hR.out)
  |(refine DC.t (T.eqlSame _ _ TyBo.h) ⟨rfl,rfl,trivial⟩ trivial ?_;exact hR.out)
  |(refine DC.t (T.eqlB _ _ TyBo.h) ⟨rfl,rfl,trivial⟩ trivial ?_;exact hR.out)
 ):DC P N ops i (⟨dst,.binOp .eql t x y t2,ty,pos,af,gd⟩::l) s acc K:=h ⟨k⟩
theorem DC.is_eql {ops:Array Oper} {i:Nat} {dst:Option Tmp} {ty:TypeId} {pos:String} {af:Array Edge} {gd:Option (Nat × Bool)} {l:List Oper} {s:DS} {acc:List Sd} {K:DS→List Sd→Prop} {t t2:TypeId} {x y:Operand} (h:DC P N ops i (⟨dst,.binOp .eql t x y t2,ty,pos,af,gd⟩::l) s acc K):DC P N ops i (⟨dst,.binOp .eql t x y t2,ty,pos,af,gd⟩::l) s acc K:=h
theorem DC.k_neq {ops:Array Oper} {i:Nat} {dst:Option Tmp} {ty:TypeId} {pos:String} {af:Array Edge} {gd:Option (Nat × Bool)} {l:List Oper} {s:DS} {acc:List Sd} {K:DS→List Sd→Prop} {t t2:TypeId} {x y:Operand} {R:Prop} (k:R) (h:Hid R→DC P N ops i (⟨dst,.binOp .neq t x y t2,ty,pos,af,gd⟩::l) s acc K:=by
 intro hR
 first
  |(refine DC.t (T.neq _ _ _ _) ⟨rfl,rfl,trivial⟩ trivial ?_;exact hR.out)
  |(refine DC.t (T.neqH (by assumption)) ⟨rfl,rfl,trivial⟩ trivial ?_;exact hR.out)
  |(refine DC.t (T.neqArr TyAn.i) ⟨rfl,rfl,trivial⟩ trivial ?_;exact hR.out)
  |(refine DC.t (T.neqStr _ _ _ _) ⟨rfl,rfl,trivial⟩ trivial ?_;exact hR.out)
  |(refine DC.t (T.neqPtr TyPtr.h rfl rfl rfl) ⟨rfl,rfl,trivial⟩ trivial ?_;exact hR.out)
  |(refine DC.t (T.neqSS inferInstance) ⟨rfl,rfl,trivial⟩ trivial ?_;exact hR.out)
  |(refine DC.t (T.neqIfN TyIf.h) ⟨rfl,rfl,trivial⟩ trivial ?_;exact hR.out)
  |(refine DC.t (T.neqIfV TyIf.h) ⟨rfl,rfl,trivial⟩ trivial ?_;exact hR.out)
  |(refine DC.t (T.neqIfZ TyIf.h) ⟨rfl,rfl,trivial⟩ trivial ?_;exact hR.out)
  |(refine DC.t (T.neqNilO _ TySl.h (by omega)) ⟨rfl,rfl,trivial⟩ ⟨rfl,trivial⟩ ?_;exact hR.out)
  |(refine DC.t (T.neqNilS _ TySl.h (by omega) (by decide)) ⟨rfl,rfl,trivial⟩ trivial ?_;exact hR.out)
  |(refine DC.t (T.neqNilF _ TySl.h) ⟨rfl,rfl,trivial⟩ trivial ?_;exact hR.out)
  |(refine DC.t (T.neqSame _ _ TyBo.h) ⟨rfl,rfl,trivial⟩ trivial ?_;exact hR.out)
  |(refine DC.t (T.neqB _ _ TyBo.h) ⟨rfl,rfl,trivial⟩ trivial ?_;exact hR.out)
 ):DC P N ops i (⟨dst,.binOp .neq t x y t2,ty,pos,af,gd⟩::l) s acc K:=h ⟨k⟩
theorem DC.is_neq {ops:Array Oper} {i:Nat} {dst:Option Tmp} {ty:TypeId} {pos:String} {af:Array Edge} {gd:Option (Nat × Bool)} {l:List Oper} {s:DS} {acc:List Sd} {K:DS→List Sd→Prop} {t t2:TypeId} {x y:Operand} (h:DC P N ops i (⟨dst,.binOp .neq t x y t2,ty,pos,af,gd⟩::l) s acc K):DC P N ops i (⟨dst,.binOp .neq t x y t2,ty,pos,af,gd⟩::l) s acc K:=h
theorem DC.k_add {ops:Array Oper} {i:Nat} {dst:Option Tmp} {ty:TypeId} {pos:String} {af:Array Edge} {gd:Option (Nat × Bool)} {l:List Oper} {s:DS} {acc:List Sd} {K:DS→List Sd→Prop} {t t2:TypeId} {x y:Operand} {R:Prop} (k:R) (h:Hid R→DC P N ops i (⟨dst,.binOp .add t x y t2,ty,pos,af,gd⟩::l) s acc K:=by
 intro hR
 first
  |(refine DC.t (T.add _ _ _ _ (by first|with_reducible assumption|(with_reducible refine w64 ?_ ?_) <;> omega|(with_reducible refine wu64 ?_ ?_) <;> omega|(with_reducible refine wu32 ?_ ?_) <;> omega|(with_reducible refine wu8 ?_ ?_) <;> omega|with_reducible exact w64_add _ _|with_reducible exact w32_add _ _|assumption)) ⟨rfl,rfl,trivial⟩ trivial ?_;exact hR.out)
  |(refine DC.t (T.catStr _ _ _ _ (by first|omega|decide|(simp only [List.length_append,List.length_take,List.length_drop,List.length_cons,List.length_nil,List.length_replicate,List.length_map];omega))) ⟨rfl,rfl,trivial⟩ trivial ?_;exact hR.out)
 ):DC P N ops i (⟨dst,.binOp .add t x y t2,ty,pos,af,gd⟩::l) s acc K:=h ⟨k⟩
theorem DC.is_add {ops:Array Oper} {i:Nat} {dst:Option Tmp} {ty:TypeId} {pos:String} {af:Array Edge} {gd:Option (Nat × Bool)} {l:List Oper} {s:DS} {acc:List Sd} {K:DS→List Sd→Prop} {t t2:TypeId} {x y:Operand} (h:DC P N ops i (⟨dst,.binOp .add t x y t2,ty,pos,af,gd⟩::l) s acc K):DC P N ops i (⟨dst,.binOp .add t x y t2,ty,pos,af,gd⟩::l) s acc K:=h
theorem DC.k_sub {ops:Array Oper} {i:Nat} {dst:Option Tmp} {ty:TypeId} {pos:String} {af:Array Edge} {gd:Option (Nat × Bool)} {l:List Oper} {s:DS} {acc:List Sd} {K:DS→List Sd→Prop} {t t2:TypeId} {x y:Operand} {R:Prop} (k:R) (h:Hid R→DC P N ops i (⟨dst,.binOp .sub t x y t2,ty,pos,af,gd⟩::l) s acc K:=by
 intro hR
 first
  |(refine DC.t (T.sub _ _ _ _ (by first|with_reducible assumption|(with_reducible refine w64 ?_ ?_) <;> omega|(with_reducible refine wu64 ?_ ?_) <;> omega|(with_reducible refine wu32 ?_ ?_) <;> omega|(with_reducible refine wu8 ?_ ?_) <;> omega|with_reducible exact w64_sub _ _|with_reducible exact w32_sub _ _|assumption)) ⟨rfl,rfl,trivial⟩ trivial ?_;exact hR.out)
 ):DC P N ops i (⟨dst,.binOp .sub t x y t2,ty,pos,af,gd⟩::l) s acc K:=h ⟨k⟩
theorem DC.is_sub {ops:Array Oper} {i:Nat} {dst:Option Tmp} {ty:TypeId} {pos:String} {af:Array Edge} {gd:Option (Nat × Bool)} {l:List Oper} {s:DS} {acc:List Sd} {K:DS→List Sd→Prop} {t t2:TypeId} {x y:Operand} (h:DC P N ops i (⟨dst,.binOp .sub t x y t2,ty,pos,af,gd⟩::l) s acc K):DC P N ops i (⟨dst,.binOp .sub t x y t2,ty,pos,af,gd⟩::l) s acc K:=h
theorem DC.k_mul {ops:Array Oper} {i:Nat} {dst:Option Tmp} {ty:TypeId} {pos:String} {af:Array Edge} {gd:Option (Nat × Bool)} {l:List Oper} {s:DS} {acc:List Sd} {K:DS→List Sd→Prop} {t t2:TypeId} {x y:Operand} {R:Prop} (k:R) (h:Hid R→DC P N ops i (⟨dst,.binOp .mul t x y t2,ty,pos,af,gd⟩::l) s acc K:=by
 intro hR
 first
  |(refine DC.t (T.mul _ _ _ _ (by first|with_reducible assumption|(with_reducible refine w64 ?_ ?_) <;> omega|(with_reducible refine wu64 ?_ ?_) <;> omega|(with_reducible refine wu32 ?_ ?_) <;> omega|(with_reducible refine wu8 ?_ ?_) <;> omega|with_reducible exact w64_mul _ _|with_reducible exact w32_mul _ _|assumption)) ⟨rfl,rfl,trivial⟩ trivial ?_;exact hR.out)
 ):DC P N ops i (⟨dst,.binOp .mul t x y t2,ty,pos,af,gd⟩::l) s acc K:=h ⟨k⟩
theorem DC.is_mul {ops:Array Oper} {i:Nat} {dst:Option Tmp} {ty:TypeId} {pos:String} {af:Array Edge} {gd:Option (Nat × Bool)} {l:List Oper} {s:DS} {acc:List Sd} {K:DS→List Sd→Prop} {t t2:TypeId} {x y:Operand} (h:DC P N ops i (⟨dst,.binOp .mul t x y t2,ty,pos,af,gd⟩::l) s acc K):DC P N ops i (⟨dst,.binOp .mul t x y t2,ty,pos,af,gd⟩::l) s acc K:=h
theorem DC.k_quo {ops:Array Oper} {i:Nat} {dst:Option Tmp} {ty:TypeId} {pos:String} {af:Array Edge} {gd:Option (Nat × Bool)} {l:List Oper} {s:DS} {acc:List Sd} {K:DS→List Sd→Prop} {t t2:TypeId} {x y:Operand} {R:Prop} (k:R) (h:Hid R→DC P N ops i (⟨dst,.binOp .quo t x y t2,ty,pos,af,gd⟩::l) s acc K:=by
 intro hR
 first
  |(refine DC.t (T.quo (k:= .i64) _ _ _ _ (by omega) (by first|exact quoN64 _ _ (by omega) (by omega)|exact quoL64 _ _ (by decide) (by omega)|exact quo64 (by omega) (by omega) (by omega)|assumption)) ⟨rfl,rfl,trivial⟩ trivial ?_;exact hR.out)
  |(refine DC.t (T.quo (k:= .u64) _ _ _ _ (by omega) (by first|exact quoNU64 _ _ (by omega) (by omega)|exact quoLU64 _ _ (by decide) (by omega)|exact quoU64 (by omega) (by omega) (by omega)|assumption)) ⟨rfl,rfl,trivial⟩ trivial ?_;exact hR.out)
  |(refine DC.t (T.quo (k:= .u32) _ _ _ _ (by omega) (by first|exact quoNU32 _ _ (by omega) (by omega)|exact quoLU32 _ _ (by decide) (by omega)|exact quoU32 (by omega) (by omega) (by omega)|assumption)) ⟨rfl,rfl,trivial⟩ trivial ?_;exact hR.out)
 ):DC P N ops i (⟨dst,.binOp .quo t x y t2,ty,pos,af,gd⟩::l) s acc K:=h ⟨k⟩
theorem DC.is_quo {ops:Array Oper} {i:Nat} {dst:Option Tmp} {ty:TypeId} {pos:String} {af:Array Edge} {gd:Option (Nat × Bool)} {l:List Oper} {s:DS} {acc:List Sd} {K:DS→List Sd→Prop} {t t2:TypeId} {x y:Operand} (h:DC P N ops i (⟨dst,.binOp .quo t x y t2,ty,pos,af,gd⟩::l) s acc K):DC P N ops i (⟨dst,.binOp .quo t x y t2,ty,pos,af,gd⟩::l) s acc K:=h
theorem DC.k_rem {ops:Array Oper} {i:Nat} {dst:Option Tmp} {ty:TypeId} {pos:String} {af:Array Edge} {gd:Option (Nat × Bool)} {l:List Oper} {s:DS} {acc:List Sd} {K:DS→List Sd→Prop} {t t2:TypeId} {x y:Operand} {R:Prop} (k:R) (h:Hid R→DC P N ops i (⟨dst,.binOp .rem t x y t2,ty,pos,af,gd⟩::l) s acc K:=by
 intro hR
 first
  |(refine DC.t (T.rem _ _ _ _ (by omega) (by first|with_reducible assumption|exact remN _ _|exact remL _ _|exact rem64 (by omega)|assumption)) ⟨rfl,rfl,trivial⟩ trivial ?_;exact hR.out)
 ):DC P N ops i (⟨dst,.binOp .rem t x y t2,ty,pos,af,gd⟩::l) s acc K:=h ⟨k⟩
theorem DC.is_rem {ops:Array Oper} {i:Nat} {dst:Option Tmp} {ty:TypeId} {pos:String} {af:Array Edge} {gd:Option (Nat × Bool)} {l:List Oper} {s:DS} {acc:List Sd} {K:DS→List Sd→Prop} {t t2:TypeId} {x y:Operand} (h:DC P N ops i (⟨dst,.binOp .rem t x y t2,ty,pos,af,gd⟩::l) s acc K):DC P N ops i (⟨dst,.binOp .rem t x y t2,ty,pos,af,gd⟩::l) s acc K:=h
theorem DC.k_and {ops:Array Oper} {i:Nat} {dst:Option Tmp} {ty:TypeId} {pos:String} {af:Array Edge} {gd:Option (Nat × Bool)} {l:List Oper} {s:DS} {acc:List Sd} {K:DS→List Sd→Prop} {t t2:TypeId} {x y:Operand} {R:Prop} (k:R) (h:Hid R→DC P N ops i (⟨dst,.binOp .and t x y t2,ty,pos,af,gd⟩::l) s acc K:=by
 intro hR
 first
  |(refine DC.t (T.and _ _ _ _ (by first|with_reducible assumption|exact v4_ (by first|assumption|omega) (by first|decide|assumption|omega)|exact r2_ (by first|assumption|omega) (by first|assumption|omega)|with_reducible exact w64_and _ _|with_reducible exact w32_and _ _|with_reducible exact w8_and _ _|assumption)) ⟨rfl,rfl,trivial⟩ trivial ?_;exact hR.out)
 ):DC P N ops i (⟨dst,.binOp .and t x y t2,ty,pos,af,gd⟩::l) s acc K:=h ⟨k⟩
theorem DC.is_and {ops:Array Oper} {i:Nat} {dst:Option Tmp} {ty:TypeId} {pos:String} {af:Array Edge} {gd:Option (Nat × Bool)} {l:List Oper} {s:DS} {acc:List Sd} {K:DS→List Sd→Prop} {t t2:TypeId} {x y:Operand} (h:DC P N ops i (⟨dst,.binOp .and t x y t2,ty,pos,af,gd⟩::l) s acc K):DC P N ops i (⟨dst,.binOp .and t x y t2,ty,pos,af,gd⟩::l) s acc K:=h
theorem DC.k_shr {ops:Array Oper} {i:Nat} {dst:Option Tmp} {ty:TypeId} {pos:String} {af:Array Edge} {gd:Option (Nat × Bool)} {l:List Oper} {s:DS} {acc:List Sd} {K:DS→List Sd→Prop} {t t2:TypeId} {x y:Operand} {R:Prop} (k:R) (h:Hid R→DC P N ops i (⟨dst,.binOp .shr t x y t2,ty,pos,af,gd⟩::l) s acc K:=by
 intro hR
 first
  |(refine DC.t (T.shr' _ _ _ _ IsN.auto IsN.auto (by first|omega|decide|(simp only [IntKind.bits];omega))) ⟨rfl,rfl,trivial⟩ trivial ?_;exact hR.out)
 ):DC P N ops i (⟨dst,.binOp .shr t x y t2,ty,pos,af,gd⟩::l) s acc K:=h ⟨k⟩
theorem DC.is_shr {ops:Array Oper} {i:Nat} {dst:Option Tmp} {ty:TypeId} {pos:String} {af:Array Edge} {gd:Option (Nat × Bool)} {l:List Oper} {s:DS} {acc:List Sd} {K:DS→List Sd→Prop} {t t2:TypeId} {x y:Operand} (h:DC P N ops i (⟨dst,.binOp .shr t x y t2,ty,pos,af,gd⟩::l) s acc K):DC P N ops i (⟨dst,.binOp .shr t x y t2,ty,pos,af,gd⟩::l) s acc K:=h
theorem DC.k_un {ops:Array Oper} {i:Nat} {dst:Option Tmp} {ty:TypeId} {pos:String} {af:Array Edge} {gd:Option (Nat × Bool)} {l:List Oper} {s:DS} {acc:List Sd} {K:DS→List Sd→Prop} {b:UnOp} {t:TypeId} {x:Operand} {R:Prop} (k:R) (h:Hid R→DC P N ops i (⟨dst,.unOp b t x,ty,pos,af,gd⟩::l) s acc K:=by
 intro hR
 first
  |(refine DC.t (T.neg _ _ (by first|exact w64 (by omega) (by omega)|assumption)) ⟨rfl,trivial⟩ trivial ?_;exact hR.out)
  |(refine DC.t (T.not _ _) ⟨rfl,trivial⟩ trivial ?_;exact hR.out)
 ):DC P N ops i (⟨dst,.unOp b t x,ty,pos,af,gd⟩::l) s acc K:=h ⟨k⟩
theorem DC.is_un {ops:Array Oper} {i:Nat} {dst:Option Tmp} {ty:TypeId} {pos:String} {af:Array Edge} {gd:Option (Nat × Bool)} {l:List Oper} {s:DS} {acc:List Sd} {K:DS→List Sd→Prop} {b:UnOp} {t:TypeId} {x:Operand} (h:DC P N ops i (⟨dst,.unOp b t x,ty,pos,af,gd⟩::l) s acc K):DC P N ops i (⟨dst,.unOp b t x,ty,pos,af,gd⟩::l) s acc K:=h
theorem DC.k_extract {ops:Array Oper} {i:Nat} {dst:Option Tmp} {ty:TypeId} {pos:String} {af:Array Edge} {gd:Option (Nat × Bool)} {l:List Oper} {s:DS} {acc:List Sd} {K:DS→List Sd→Prop} {x:Operand} {j:Nat} {R:Prop} (k:R) (h:Hid R→DC P N ops i (⟨dst,.extract x j,ty,pos,af,gd⟩::l) s acc K:=by
 intro hR
 first
  |(refine DC.t (T.extract _ _ rfl) ⟨rfl,trivial⟩ trivial ?_;exact hR.out)
 ):DC P N ops i (⟨dst,.extract x j,ty,pos,af,gd⟩::l) s acc K:=h ⟨k⟩
theorem DC.is_extract {ops:Array Oper} {i:Nat} {dst:Option Tmp} {ty:TypeId} {pos:String} {af:Array Edge} {gd:Option (Nat × Bool)} {l:List Oper} {s:DS} {acc:List Sd} {K:DS→List Sd→Prop} {x:Operand} {j:Nat} (h:DC P N ops i (⟨dst,.extract x j,ty,pos,af,gd⟩::l) s acc K):DC P N ops i (⟨dst,.extract x j,ty,pos,af,gd⟩::l) s acc K:=h
theorem DC.k_pick {ops:Array Oper} {i:Nat} {dst:Option Tmp} {ty:TypeId} {pos:String} {af:Array Edge} {gd:Option (Nat × Bool)} {l:List Oper} {s:DS} {acc:List Sd} {K:DS→List Sd→Prop} {x y v:Operand} {R:Prop} (k:R) (h:Hid R→DC P N ops i (⟨dst,.pick x y v,ty,pos,af,gd⟩::l) s acc K:=by
 intro hR
 first
  |(refine DC.t (T.pickT' _ _ _ (by first|with_reducible rfl|with_reducible assumption|(refine decide_eq_true ?_;first|omega|with_reducible assumption|fail)|(refine decide_eq_false ?_;first|omega|with_reducible assumption|fail)|decide|(simp only [Bool.and_true,Bool.true_and,Bool.and_false,Bool.false_and,Bool.or_true,Bool.true_or,Bool.or_false,Bool.false_or,Bool.not_true,Bool.not_false,Option.isNone_none,Option.isNone_some,beq_self_eq_true] <;> fail)|fail)) ⟨rfl,rfl,trivial⟩ trivial ?_;exact hR.out)
  |(refine DC.t (T.pickF' _ _ _ (by first|with_reducible rfl|with_reducible assumption|(refine decide_eq_true ?_;first|omega|with_reducible assumption|fail)|(refine decide_eq_false ?_;first|omega|with_reducible assumption|fail)|decide|(simp only [Bool.and_true,Bool.true_and,Bool.and_false,Bool.false_and,Bool.or_true,Bool.true_or,Bool.or_false,Bool.false_or,Bool.not_true,Bool.not_false,Option.isNone_none,Option.isNone_some,beq_self_eq_true] <;> fail)|fail)) ⟨rfl,rfl,trivial⟩ trivial ?_;exact hR.out)
 ):DC P N ops i (⟨dst,.pick x y v,ty,pos,af,gd⟩::l) s acc K:=h ⟨k⟩
theorem DC.is_pick {ops:Array Oper} {i:Nat} {dst:Option Tmp} {ty:TypeId} {pos:String} {af:Array Edge} {gd:Option (Nat × Bool)} {l:List Oper} {s:DS} {acc:List Sd} {K:DS→List Sd→Prop} {x y v:Operand} (h:DC P N ops i (⟨dst,.pick x y v,ty,pos,af,gd⟩::l) s acc K):DC P N ops i (⟨dst,.pick x y v,ty,pos,af,gd⟩::l) s acc K:=h
theorem DC.k_alloc {ops:Array Oper} {i:Nat} {dst:Option Tmp} {ty:TypeId} {pos:String} {af:Array Edge} {gd:Option (Nat × Bool)} {l:List Oper} {s:DS} {acc:List Sd} {K:DS→List Sd→Prop} {t:TypeId} {R:Prop} (k:R) (h:Hid R→DC P N ops i (⟨dst,.alloc t,ty,pos,af,gd⟩::l) s acc K:=by
 intro hR
 first
  |(refine DC.t (T.allocTA (by assumption) TyZ.h) trivial (by exact⟨rfl,trivial⟩) ?_;exact hR.out)
  |(refine DC.t (T.allocZAA (by assumption) inferInstance) trivial (by exact⟨rfl,trivial⟩) ?_;exact hR.out)
  |(refine DC.t (T.allocA (by assumption) TyZ.h) trivial (by exact⟨rfl,trivial⟩) ?_;exact hR.out)
  |(refine DC.t (T.allocZD inferInstance) trivial ⟨rfl,trivial⟩ ?_;exact hR.out)
  |(refine DC.t (T.allocD TyZ.h) trivial ⟨rfl,trivial⟩ ?_;exact hR.out)
 ):DC P N ops i (⟨dst,.alloc t,ty,pos,af,gd⟩::l) s acc K:=h ⟨k⟩
theorem DC.is_alloc {ops:Array Oper} {i:Nat} {dst:Option Tmp} {ty:TypeId} {pos:String} {af:Array Edge} {gd:Option (Nat × Bool)} {l:List Oper} {s:DS} {acc:List Sd} {K:DS→List Sd→Prop} {t:TypeId} (h:DC P N ops i (⟨dst,.alloc t,ty,pos,af,gd⟩::l) s acc K):DC P N ops i (⟨dst,.alloc t,ty,pos,af,gd⟩::l) s acc K:=h
theorem DC.k_box {ops:Array Oper} {i:Nat} {dst:Option Tmp} {ty:TypeId} {pos:String} {af:Array Edge} {gd:Option (Nat × Bool)} {l:List Oper} {s:DS} {acc:List Sd} {K:DS→List Sd→Prop} {t:TypeId} {x:Operand} {R:Prop} (k:R) (h:Hid R→DC P N ops i (⟨dst,.box t x,ty,pos,af,gd⟩::l) s acc K:=by
 intro hR
 first
  |(refine DC.t (T.boxA (by assumption) rfl) ⟨rfl,trivial⟩ (by exact⟨rfl,trivial⟩) ?_;exact hR.out)
  |(refine DC.t (T.boxD rfl) ⟨rfl,trivial⟩ ⟨rfl,trivial⟩ ?_;exact hR.out)
 ):DC P N ops i (⟨dst,.box t x,ty,pos,af,gd⟩::l) s acc K:=h ⟨k⟩
theorem DC.is_box {ops:Array Oper} {i:Nat} {dst:Option Tmp} {ty:TypeId} {pos:String} {af:Array Edge} {gd:Option (Nat × Bool)} {l:List Oper} {s:DS} {acc:List Sd} {K:DS→List Sd→Prop} {t:TypeId} {x:Operand} (h:DC P N ops i (⟨dst,.box t x,ty,pos,af,gd⟩::l) s acc K):DC P N ops i (⟨dst,.box t x,ty,pos,af,gd⟩::l) s acc K:=h
theorem DC.k_build {ops:Array Oper} {i:Nat} {dst:Option Tmp} {ty:TypeId} {pos:String} {af:Array Edge} {gd:Option (Nat × Bool)} {l:List Oper} {s:DS} {acc:List Sd} {K:DS→List Sd→Prop} {t:TypeId} {ps:Array (Nat × Operand)} {R:Prop} (k:R) (h:Hid R→DC P N ops i (⟨dst,.build t ps,ty,pos,af,gd⟩::l) s acc K:=by
 intro hR
 first
  |(refine DC.t (T.buildS1P TyPl.h TyZ.h rfl) ⟨rfl,trivial⟩ trivial ?_;exact hR.out)
  |(refine DC.t (T.buildS2P TyPl.h TyZ.h rfl) ⟨rfl,rfl,trivial⟩ trivial ?_;exact hR.out)
  |(refine DC.t (T.buildS3P TyPl.h TyZ.h rfl) ⟨rfl,rfl,rfl,trivial⟩ trivial ?_;exact hR.out)
  |(refine DC.t (T.buildS4P TyPl.h TyZ.h rfl) ⟨rfl,rfl,rfl,rfl,trivial⟩ trivial ?_;exact hR.out)
  |(refine DC.t (T.buildS0P TyPl.h TyZ.h) trivial trivial ?_;exact hR.out)
  |(refine DC.t (T.buildZ inferInstance TyAr.h TyI.sz) trivial trivial ?_;exact hR.out)
  |(refine DC.t (T.buildA1 _ _ TyAr.h TyZ.h TyI.sz rfl) ⟨rfl,trivial⟩ trivial ?_;exact hR.out)
  |(refine DC.t (T.buildA4 _ _ _ _ _ TyAr.h TyZ.h TyI.sz rfl) ⟨rfl,rfl,rfl,rfl,trivial⟩ trivial ?_;exact hR.out)
 ):DC P N ops i (⟨dst,.build t ps,ty,pos,af,gd⟩::l) s acc K:=h ⟨k⟩
theorem DC.is_build {ops:Array Oper} {i:Nat} {dst:Option Tmp} {ty:TypeId} {pos:String} {af:Array Edge} {gd:Option (Nat × Bool)} {l:List Oper} {s:DS} {acc:List Sd} {K:DS→List Sd→Prop} {t:TypeId} {ps:Array (Nat × Operand)} (h:DC P N ops i (⟨dst,.build t ps,ty,pos,af,gd⟩::l) s acc K):DC P N ops i (⟨dst,.build t ps,ty,pos,af,gd⟩::l) s acc K:=h
theorem DC.k_buildSlice {ops:Array Oper} {i:Nat} {dst:Option Tmp} {ty:TypeId} {pos:String} {af:Array Edge} {gd:Option (Nat × Bool)} {l:List Oper} {s:DS} {acc:List Sd} {K:DS→List Sd→Prop} {t j:Nat} {ps:Array (Nat × Operand)} {R:Prop} (k:R) (h:Hid R→DC P N ops i (⟨dst,.buildSlice t j ps,ty,pos,af,gd⟩::l) s acc K:=by
 intro hR
 first
  |(refine DC.t (T.buildOwnA0 (by assumption) TySl.h TyZ.h TyI.sz) trivial (by exact⟨rfl,trivial⟩) ?_;exact hR.out)
  |(refine DC.t (T.buildOwnA1 (by assumption) TySl.h TyZ.h TyI.sz rfl rfl (by decide)) ⟨rfl,trivial⟩ (by exact⟨rfl,trivial⟩) ?_;exact hR.out)
  |(refine DC.t (T.buildOwnD0 (by assumption) TySl.h TyZ.h TyI.sz) trivial (by exact⟨rfl,trivial⟩) ?_;exact hR.out)
  |(refine DC.t (T.buildOwnD1 (by assumption) TySl.h TyZ.h TyI.sz rfl rfl (by decide)) ⟨rfl,trivial⟩ (by exact⟨rfl,trivial⟩) ?_;exact hR.out)
  |(refine DC.t (T.buildSl1 _ _ TySl.h TyZ.h TyI.sz rfl rfl (by decide) rfl) ⟨rfl,trivial⟩ trivial ?_;exact hR.out)
  |(refine DC.t (T.buildSl2 _ _ _ TySl.h TyZ.h TyI.sz rfl rfl rfl rfl (by decide) rfl) ⟨rfl,rfl,trivial⟩ trivial ?_;exact hR.out)
  |(refine DC.t (T.buildSl3 _ _ _ _ TySl.h TyZ.h TyI.sz rfl rfl rfl rfl rfl rfl (by decide) rfl) ⟨rfl,rfl,rfl,trivial⟩ trivial ?_;exact hR.out)
  |(refine DC.t (T.buildSl0 _ TySl.h TyZ.h TyI.sz) trivial trivial ?_;exact hR.out)
 ):DC P N ops i (⟨dst,.buildSlice t j ps,ty,pos,af,gd⟩::l) s acc K:=h ⟨k⟩
theorem DC.is_buildSlice {ops:Array Oper} {i:Nat} {dst:Option Tmp} {ty:TypeId} {pos:String} {af:Array Edge} {gd:Option (Nat × Bool)} {l:List Oper} {s:DS} {acc:List Sd} {K:DS→List Sd→Prop} {t j:Nat} {ps:Array (Nat × Operand)} (h:DC P N ops i (⟨dst,.buildSlice t j ps,ty,pos,af,gd⟩::l) s acc K):DC P N ops i (⟨dst,.buildSlice t j ps,ty,pos,af,gd⟩::l) s acc K:=h
theorem DC.k_makeSlice {ops:Array Oper} {i:Nat} {dst:Option Tmp} {ty:TypeId} {pos:String} {af:Array Edge} {gd:Option (Nat × Bool)} {l:List Oper} {s:DS} {acc:List Sd} {K:DS→List Sd→Prop} {t:TypeId} {x y:Operand} {R:Prop} (k:R) (h:Hid R→DC P N ops i (⟨dst,.makeSlice t x y,ty,pos,af,gd⟩::l) s acc K:=by
 intro hR
 first
  |(refine DC.t (T.makeBslA (by assumption) TySl.h TyIn.h rfl IsN.auto IsN.auto (by omega) (by unfold maxLen;omega)) ⟨rfl,rfl,trivial⟩ (by exact⟨rfl,trivial⟩) ?_;exact hR.out)
  |(refine DC.t (T.makeSlA (by assumption) TySl.h TyIn.h rfl (by omega) (by unfold maxLen;omega)) ⟨rfl,rfl,trivial⟩ (by exact⟨rfl,trivial⟩) ?_;exact hR.out)
  |(refine DC.t (T.makeSlD TySl.h TyIn.h rfl (by omega) (by unfold maxLen;omega)) ⟨rfl,rfl,trivial⟩ ⟨rfl,trivial⟩ ?_;exact hR.out)
  |(refine DC.t (T.makeSlCA (by assumption) TySl.h TyIn.h rfl IsN.auto IsN.auto (by omega) (by omega) (by unfold maxLen;omega)) ⟨rfl,rfl,trivial⟩ (by exact⟨rfl,trivial⟩) ?_;exact hR.out)
  |(refine DC.t (T.makeSlCD TySl.h TyIn.h rfl IsN.auto IsN.auto (by omega) (by omega) (by unfold maxLen;omega)) ⟨rfl,rfl,trivial⟩ ⟨rfl,trivial⟩ ?_;exact hR.out)
 ):DC P N ops i (⟨dst,.makeSlice t x y,ty,pos,af,gd⟩::l) s acc K:=h ⟨k⟩
theorem DC.is_makeSlice {ops:Array Oper} {i:Nat} {dst:Option Tmp} {ty:TypeId} {pos:String} {af:Array Edge} {gd:Option (Nat × Bool)} {l:List Oper} {s:DS} {acc:List Sd} {K:DS→List Sd→Prop} {t:TypeId} {x y:Operand} (h:DC P N ops i (⟨dst,.makeSlice t x y,ty,pos,af,gd⟩::l) s acc K):DC P N ops i (⟨dst,.makeSlice t x y,ty,pos,af,gd⟩::l) s acc K:=h
theorem DC.k_slice {ops:Array Oper} {i:Nat} {dst:Option Tmp} {ty:TypeId} {pos:String} {af:Array Edge} {gd:Option (Nat × Bool)} {l:List Oper} {s:DS} {acc:List Sd} {K:DS→List Sd→Prop} {t:TypeId} {x:Operand} {lo hi mx:Option Operand} {R:Prop} (k:R) (h:Hid R→DC P N ops i (⟨dst,.slice t x lo hi mx,ty,pos,af,gd⟩::l) s acc K:=by
 intro hR
 first
  |(refine DC.t (T.strHL' _ _ _ _ TyStr.h IsN.auto IsN.auto (by first|omega|decide|(simp only [List.length_append,List.length_take,List.length_drop,List.length_cons,List.length_nil,List.length_replicate,List.length_map];omega)) (by first|omega|decide|(simp only [List.length_append,List.length_take,List.length_drop,List.length_cons,List.length_nil,List.length_replicate,List.length_map];omega))) ⟨rfl,rfl,rfl,trivial⟩ trivial ?_;exact hR.out)
  |(refine DC.t (T.strH' _ _ _ TyStr.h IsN.auto (by first|omega|decide|(simp only [List.length_append,List.length_take,List.length_drop,List.length_cons,List.length_nil,List.length_replicate,List.length_map];omega))) ⟨rfl,rfl,trivial⟩ trivial ?_;exact hR.out)
  |(refine DC.t (T.strL' _ _ _ TyStr.h IsN.auto (by first|omega|decide|(simp only [List.length_append,List.length_take,List.length_drop,List.length_cons,List.length_nil,List.length_replicate,List.length_map];omega))) ⟨rfl,rfl,trivial⟩ trivial ?_;exact hR.out)
  |(refine DC.t (T.cutBslH _ _ _ TySl.h TyI.sz IsN.auto (by omega) (by omega)) ⟨rfl,rfl,trivial⟩ trivial ?_;exact hR.out)
  |(refine DC.t (T.cutBslL _ _ _ TySl.h TyI.sz IsN.auto (by omega) (by omega)) ⟨rfl,rfl,trivial⟩ trivial ?_;exact hR.out)
  |(refine DC.t (T.cutHL' _ _ _ _ TySl.h TyI.sz IsN.auto IsN.auto (by first|omega|decide) (by first|omega|decide)) ⟨rfl,rfl,rfl,trivial⟩ trivial ?_;exact hR.out)
  |(refine DC.t (T.cutH' _ _ _ TySl.h TyI.sz IsN.auto (by first|omega|decide)) ⟨rfl,rfl,trivial⟩ trivial ?_;exact hR.out)
  |(refine DC.t (T.cutL' _ _ _ TySl.h TyI.sz IsN.auto (by first|omega|decide)) ⟨rfl,rfl,trivial⟩ trivial ?_;exact hR.out)
 ):DC P N ops i (⟨dst,.slice t x lo hi mx,ty,pos,af,gd⟩::l) s acc K:=h ⟨k⟩
theorem DC.is_slice {ops:Array Oper} {i:Nat} {dst:Option Tmp} {ty:TypeId} {pos:String} {af:Array Edge} {gd:Option (Nat × Bool)} {l:List Oper} {s:DS} {acc:List Sd} {K:DS→List Sd→Prop} {t:TypeId} {x:Operand} {lo hi mx:Option Operand} (h:DC P N ops i (⟨dst,.slice t x lo hi mx,ty,pos,af,gd⟩::l) s acc K):DC P N ops i (⟨dst,.slice t x lo hi mx,ty,pos,af,gd⟩::l) s acc K:=h
theorem DC.k_makeFunc {ops:Array Oper} {i:Nat} {dst:Option Tmp} {ty:TypeId} {pos:String} {af:Array Edge} {gd:Option (Nat × Bool)} {l:List Oper} {s:DS} {acc:List Sd} {K:DS→List Sd→Prop} {fn:Fn} {fs cs:Array Operand} {R:Prop} (k:R) (h:Hid R→DC P N ops i (⟨dst,.makeFunc fn fs cs,ty,pos,af,gd⟩::l) s acc K:=by
 intro hR
 first
  |(refine DC.t (T.makeFunc (fs:=[]) (cs:=[]) (fd:=[]) (cd:=[]) rfl rfl) trivial trivial ?_;exact hR.out)
  |(refine DC.t (T.makeFunc (fs:=[]) (cs:=[_]) (fd:=[]) (cd:=[_]) rfl rfl) ⟨rfl,trivial⟩ trivial ?_;exact hR.out)
  |(refine DC.t (T.makeFunc (fs:=[]) (cs:=[_,_]) (fd:=[]) (cd:=[_,_]) rfl rfl) ⟨rfl,rfl,trivial⟩ trivial ?_;exact hR.out)
  |(refine DC.t (T.makeFunc (fs:=[]) (cs:=[_,_,_]) (fd:=[]) (cd:=[_,_,_]) rfl rfl) ⟨rfl,rfl,rfl,trivial⟩ trivial ?_;exact hR.out)
  |(refine DC.t (T.makeFunc (fs:=[]) (cs:=[_,_,_,_]) (fd:=[]) (cd:=[_,_,_,_]) rfl rfl) ⟨rfl,rfl,rfl,rfl,trivial⟩ trivial ?_;exact hR.out)
  |(refine DC.t (T.makeFunc (fs:=[]) (cs:=[_,_,_,_,_]) (fd:=[]) (cd:=[_,_,_,_,_]) rfl rfl) ⟨rfl,rfl,rfl,rfl,rfl,trivial⟩ trivial ?_;exact hR.out)
  |(refine DC.t (T.makeFunc (fs:=[]) (cs:=[_,_,_,_,_,_]) (fd:=[]) (cd:=[_,_,_,_,_,_]) rfl rfl) ⟨rfl,rfl,rfl,rfl,rfl,rfl,trivial⟩ trivial ?_;exact hR.out)
  |(refine DC.t (T.makeFunc (fs:=[_]) (cs:=[]) (fd:=[_]) (cd:=[]) rfl rfl) ⟨rfl,trivial⟩ trivial ?_;exact hR.out)
  |(refine DC.t (T.makeFunc (fs:=[_,_]) (cs:=[]) (fd:=[_,_]) (cd:=[]) rfl rfl) ⟨rfl,rfl,trivial⟩ trivial ?_;exact hR.out)
  |(refine DC.t (T.makeFunc (fs:=[_,_,_]) (cs:=[]) (fd:=[_,_,_]) (cd:=[]) rfl rfl) ⟨rfl,rfl,rfl,trivial⟩ trivial ?_;exact hR.out)
 ):DC P N ops i (⟨dst,.makeFunc fn fs cs,ty,pos,af,gd⟩::l) s acc K:=h ⟨k⟩
theorem DC.is_makeFunc {ops:Array Oper} {i:Nat} {dst:Option Tmp} {ty:TypeId} {pos:String} {af:Array Edge} {gd:Option (Nat × Bool)} {l:List Oper} {s:DS} {acc:List Sd} {K:DS→List Sd→Prop} {fn:Fn} {fs cs:Array Operand} (h:DC P N ops i (⟨dst,.makeFunc fn fs cs,ty,pos,af,gd⟩::l) s acc K):DC P N ops i (⟨dst,.makeFunc fn fs cs,ty,pos,af,gd⟩::l) s acc K:=h
theorem DC.k_nilCheck {ops:Array Oper} {i:Nat} {dst:Option Tmp} {ty:TypeId} {pos:String} {af:Array Edge} {gd:Option (Nat × Bool)} {l:List Oper} {s:DS} {acc:List Sd} {K:DS→List Sd→Prop} {x:Operand} {R:Prop} (k:R) (h:Hid R→DC P N ops i (⟨dst,.nilCheck x,ty,pos,af,gd⟩::l) s acc K:=by
 intro hR
 first
  |(refine DC.t (T.nilCheck _ rfl) ⟨rfl,trivial⟩ trivial ?_;exact hR.out)
 ):DC P N ops i (⟨dst,.nilCheck x,ty,pos,af,gd⟩::l) s acc K:=h ⟨k⟩
theorem DC.is_nilCheck {ops:Array Oper} {i:Nat} {dst:Option Tmp} {ty:TypeId} {pos:String} {af:Array Edge} {gd:Option (Nat × Bool)} {l:List Oper} {s:DS} {acc:List Sd} {K:DS→List Sd→Prop} {x:Operand} (h:DC P N ops i (⟨dst,.nilCheck x,ty,pos,af,gd⟩::l) s acc K):DC P N ops i (⟨dst,.nilCheck x,ty,pos,af,gd⟩::l) s acc K:=h
theorem DC.k_convert {ops:Array Oper} {i:Nat} {dst:Option Tmp} {ty:TypeId} {pos:String} {af:Array Edge} {gd:Option (Nat × Bool)} {l:List Oper} {s:DS} {acc:List Sd} {K:DS→List Sd→Prop} {t t2:TypeId} {x:Operand} {R:Prop} (k:R) (h:Hid R→DC P N ops i (⟨dst,.convert t t2 x,ty,pos,af,gd⟩::l) s acc K:=by
 intro hR
 first
  |(refine DC.t (T.convBS _ _ _ TySl.h TyInt.h TyStr.h rfl (by first|rfl|assumption)) ⟨rfl,trivial⟩ trivial ?_;exact hR.out)
  |(refine DC.t (T.convOS _ _ _ TySl.h TyInt.h TyStr.h rfl (by first|rfl|assumption)) ⟨rfl,trivial⟩ ⟨rfl,trivial⟩ ?_;exact hR.out)
  |(refine DC.t (T.convSBA (by assumption) TyStr.h TySl.h TyInt.h (by first|omega|decide|(simp only [List.length_append,List.length_take,List.length_drop,List.length_cons,List.length_nil,List.length_replicate,List.length_map];omega))) ⟨rfl,trivial⟩ (by exact⟨rfl,trivial⟩) ?_;exact hR.out)
  |(refine DC.t (T.convSBD TyStr.h TySl.h TyInt.h (by first|omega|decide|(simp only [List.length_append,List.length_take,List.length_drop,List.length_cons,List.length_nil,List.length_replicate,List.length_map];omega))) ⟨rfl,trivial⟩ ⟨rfl,trivial⟩ ?_;exact hR.out)
  |(refine DC.t (T.convI (k2:= .i64) _ _ _ TyInt.h TyInt.h (by first|exact w64 (by omega) (by omega)|exact w64_u8 _|exact w64_32 _|assumption)) ⟨rfl,trivial⟩ trivial ?_;exact hR.out)
  |(refine DC.t (T.convI (k2:= .u64) _ _ _ TyInt.h TyInt.h (by first|exact wu64 (by omega) (by omega)|exact wu64_u8 _|exact wu64_32 _|assumption)) ⟨rfl,trivial⟩ trivial ?_;exact hR.out)
  |(refine DC.t (T.convI (k2:= .u32) _ _ _ TyInt.h TyInt.h (by first|exact wu32 (by omega) (by omega)|exact wu32_u8 _|assumption)) ⟨rfl,trivial⟩ trivial ?_;exact hR.out)
  |(refine DC.t (T.convI (k2:= .u8) _ _ _ TyInt.h TyInt.h (by first|exact wu8 (by omega) (by omega)|assumption)) ⟨rfl,trivial⟩ trivial ?_;exact hR.out)
  |(refine DC.t (T.conv32 _ _ _ TyInt.h TyInt.h IsN.auto) ⟨rfl,trivial⟩ trivial ?_;exact hR.out)
  |(refine DC.t (T.conv8 _ _ _ TyInt.h TyInt.h IsN.auto) ⟨rfl,trivial⟩ trivial ?_;exact hR.out)
 ):DC P N ops i (⟨dst,.convert t t2 x,ty,pos,af,gd⟩::l) s acc K:=h ⟨k⟩
theorem DC.is_convert {ops:Array Oper} {i:Nat} {dst:Option Tmp} {ty:TypeId} {pos:String} {af:Array Edge} {gd:Option (Nat × Bool)} {l:List Oper} {s:DS} {acc:List Sd} {K:DS→List Sd→Prop} {t t2:TypeId} {x:Operand} (h:DC P N ops i (⟨dst,.convert t t2 x,ty,pos,af,gd⟩::l) s acc K):DC P N ops i (⟨dst,.convert t t2 x,ty,pos,af,gd⟩::l) s acc K:=h
theorem DC.k_lookup {ops:Array Oper} {i:Nat} {dst:Option Tmp} {ty:TypeId} {pos:String} {af:Array Edge} {gd:Option (Nat × Bool)} {l:List Oper} {s:DS} {acc:List Sd} {K:DS→List Sd→Prop} {t:TypeId} {x y:Operand} {b:Bool} {R:Prop} (k:R) (h:Hid R→DC P N ops i (⟨dst,.lookup t x y b,ty,pos,af,gd⟩::l) s acc K:=by
 intro hR
 first
  |(refine DC.t (T.lookupStr _ _ _ TyMap.h TyStr.h TyZ.h (by first|assumption|rfl)) ⟨rfl,rfl,trivial⟩ ⟨rfl,trivial⟩ ?_;exact hR.out)
  |(refine DC.t (T.lookupTF _ _ _ TyMap.h (by first|exact IsV.flat|assumption) (by assumption) (by first|assumption|exact rfl|rfl)) ⟨rfl,rfl,trivial⟩ (by exact⟨rfl,trivial⟩) ?_;exact hR.out)
  |(refine DC.t (T.lookupTT _ _ _ TyMap.h (by first|exact IsV.flat|assumption) (by assumption) (by first|assumption|exact rfl|rfl)) ⟨rfl,rfl,trivial⟩ (by exact⟨rfl,trivial⟩) ?_;exact hR.out)
  |(refine DC.t (T.lookupNF _ _ _ TyMap.h TyZ.h (by first|exact IsV.flat|assumption) (by assumption)) ⟨rfl,rfl,trivial⟩ (by exact⟨rfl,trivial⟩) ?_;exact hR.out)
  |(refine DC.t (T.lookupNT _ _ _ TyMap.h TyZ.h (by first|exact IsV.flat|assumption) (by assumption)) ⟨rfl,rfl,trivial⟩ (by exact⟨rfl,trivial⟩) ?_;exact hR.out)
 ):DC P N ops i (⟨dst,.lookup t x y b,ty,pos,af,gd⟩::l) s acc K:=h ⟨k⟩
theorem DC.is_lookup {ops:Array Oper} {i:Nat} {dst:Option Tmp} {ty:TypeId} {pos:String} {af:Array Edge} {gd:Option (Nat × Bool)} {l:List Oper} {s:DS} {acc:List Sd} {K:DS→List Sd→Prop} {t:TypeId} {x y:Operand} {b:Bool} (h:DC P N ops i (⟨dst,.lookup t x y b,ty,pos,af,gd⟩::l) s acc K):DC P N ops i (⟨dst,.lookup t x y b,ty,pos,af,gd⟩::l) s acc K:=h
theorem DC.k_mapUpdate {ops:Array Oper} {i:Nat} {dst:Option Tmp} {ty:TypeId} {pos:String} {af:Array Edge} {gd:Option (Nat × Bool)} {l:List Oper} {s:DS} {acc:List Sd} {K:DS→List Sd→Prop} {t:TypeId} {x y v:Operand} {R:Prop} (k:R) (h:Hid R→DC P N ops i (⟨dst,.mapUpdate t x y v,ty,pos,af,gd⟩::l) s acc K:=by
 intro hR
 first
  |(refine DC.t (T.mapPutStr _ _ _ _ TyMap.h TyStr.h (by assumption)) ⟨rfl,rfl,rfl,trivial⟩ (by exact⟨rfl,trivial⟩) ?_;exact hR.out)
  |(refine DC.t (T.putN _ _ _ _ TyMap.h (by first|exact IsV.flat|assumption) (by assumption)) ⟨rfl,rfl,rfl,trivial⟩ (by exact⟨rfl,trivial⟩) ?_;exact hR.out)
  |(refine DC.t (T.putT _ _ _ _ TyMap.h (by first|exact IsV.flat|assumption) (by assumption)) ⟨rfl,rfl,rfl,trivial⟩ (by exact⟨rfl,trivial⟩) ?_;exact hR.out)
 ):DC P N ops i (⟨dst,.mapUpdate t x y v,ty,pos,af,gd⟩::l) s acc K:=h ⟨k⟩
theorem DC.is_mapUpdate {ops:Array Oper} {i:Nat} {dst:Option Tmp} {ty:TypeId} {pos:String} {af:Array Edge} {gd:Option (Nat × Bool)} {l:List Oper} {s:DS} {acc:List Sd} {K:DS→List Sd→Prop} {t:TypeId} {x y v:Operand} (h:DC P N ops i (⟨dst,.mapUpdate t x y v,ty,pos,af,gd⟩::l) s acc K):DC P N ops i (⟨dst,.mapUpdate t x y v,ty,pos,af,gd⟩::l) s acc K:=h
theorem DC.k_insert {ops:Array Oper} {i:Nat} {dst:Option Tmp} {ty:TypeId} {pos:String} {af:Array Edge} {gd:Option (Nat × Bool)} {l:List Oper} {s:DS} {acc:List Sd} {K:DS→List Sd→Prop} {t:TypeId} {x y v:Operand} {R:Prop} (k:R) (h:Hid R→DC P N ops i (⟨dst,.insert t x y v,ty,pos,af,gd⟩::l) s acc K:=by
 intro hR
 first
  |(refine DC.t (T.insN _ _ _ _ TyMap.h (by first|exact IsV.flat|assumption) (by assumption)) ⟨rfl,rfl,rfl,trivial⟩ (by exact⟨rfl,trivial⟩) ?_;exact hR.out)
 ):DC P N ops i (⟨dst,.insert t x y v,ty,pos,af,gd⟩::l) s acc K:=h ⟨k⟩
theorem DC.is_insert {ops:Array Oper} {i:Nat} {dst:Option Tmp} {ty:TypeId} {pos:String} {af:Array Edge} {gd:Option (Nat × Bool)} {l:List Oper} {s:DS} {acc:List Sd} {K:DS→List Sd→Prop} {t:TypeId} {x y v:Operand} (h:DC P N ops i (⟨dst,.insert t x y v,ty,pos,af,gd⟩::l) s acc K):DC P N ops i (⟨dst,.insert t x y v,ty,pos,af,gd⟩::l) s acc K:=h
theorem DC.k_makeMap {ops:Array Oper} {i:Nat} {dst:Option Tmp} {ty:TypeId} {pos:String} {af:Array Edge} {gd:Option (Nat × Bool)} {l:List Oper} {s:DS} {acc:List Sd} {K:DS→List Sd→Prop} {t:TypeId} {r:Option Operand} {R:Prop} (k:R) (h:Hid R→DC P N ops i (⟨dst,.makeMap t r,ty,pos,af,gd⟩::l) s acc K:=by
 intro hR
 first
  |(refine DC.t (T.makeMapA (by assumption)) trivial (by exact⟨rfl,trivial⟩) ?_;exact hR.out)
  |(refine DC.t (T.makeMapD) trivial ⟨rfl,trivial⟩ ?_;exact hR.out)
 ):DC P N ops i (⟨dst,.makeMap t r,ty,pos,af,gd⟩::l) s acc K:=h ⟨k⟩
theorem DC.is_makeMap {ops:Array Oper} {i:Nat} {dst:Option Tmp} {ty:TypeId} {pos:String} {af:Array Edge} {gd:Option (Nat × Bool)} {l:List Oper} {s:DS} {acc:List Sd} {K:DS→List Sd→Prop} {t:TypeId} {r:Option Operand} (h:DC P N ops i (⟨dst,.makeMap t r,ty,pos,af,gd⟩::l) s acc K):DC P N ops i (⟨dst,.makeMap t r,ty,pos,af,gd⟩::l) s acc K:=h
theorem DC.k_builtin {ops:Array Oper} {i:Nat} {dst:Option Tmp} {ty:TypeId} {pos:String} {af:Array Edge} {gd:Option (Nat × Bool)} {l:List Oper} {s:DS} {acc:List Sd} {K:DS→List Sd→Prop} {b:Builtin} {ar:Array Operand} {ts:Array TypeId} {R:Prop} (k:R) (h:Hid R→DC P N ops i (⟨dst,.call { callee:= .builtin b,args:=ar,argTypes:=ts },ty,pos,af,gd⟩::l) s acc K:=by
 intro hR
 first
  |(refine DC.t (T.lenStr _ _ TyStr.h) ⟨rfl,trivial⟩ trivial ?_;exact hR.out)
  |(refine DC.t (T.appendStrB _ _ _ _ TySl.h TyStr.h TyIn.h rfl (by decide) (by first|omega|decide|(simp only [List.length_append,List.length_take,List.length_drop,List.length_cons,List.length_nil,List.length_replicate,List.length_map];omega))) ⟨rfl,rfl,trivial⟩ ⟨rfl,trivial⟩ ?_;exact hR.out)
  |(refine DC.t (T.lenSl _ _ TySl.h) ⟨rfl,trivial⟩ trivial ?_;exact hR.out)
  |(refine DC.t (T.lenOwn _ _ TySl.h) ⟨rfl,trivial⟩ trivial ?_;exact hR.out)
  |(refine DC.t (T.lenNil _ _ TySl.h) ⟨rfl,trivial⟩ trivial ?_;exact hR.out)
  |(refine DC.t (T.lenBsl _ _ TySl.h) ⟨rfl,trivial⟩ trivial ?_;exact hR.out)
  |(refine DC.t (T.minI _ _ _ (by first|assumption|rfl)) ⟨rfl,rfl,trivial⟩ trivial ?_;exact hR.out)
  |(refine DC.t (T.maxI _ _ _ (by first|assumption|rfl)) ⟨rfl,rfl,trivial⟩ trivial ?_;exact hR.out)
  |(refine DC.t (T.appendSl _ _ _ TySl.h TyIn.h rfl (by decide) (by decide) (Le.refl _) (by omega)) ⟨rfl,rfl,trivial⟩ trivial ?_;exact hR.out)
  |(refine DC.t (T.appendSl _ _ _ TySl.h TyIn.h rfl (by decide) (by decide) Le.empty (by omega)) ⟨rfl,rfl,trivial⟩ trivial ?_;exact hR.out)
  |(refine DC.t (T.appendRow (by assumption) _ _ _ TySl.h TyIn.h rfl (by decide) (by decide) (by omega) (by omega)) ⟨rfl,rfl,trivial⟩ (by exact⟨rfl,trivial⟩) ?_;exact hR.out)
  |(refine DC.t (T.appendNilA (by assumption) _ _ _ TySl.h TyIn.h rfl (by decide) (by decide) (by omega) (by omega)) ⟨rfl,rfl,trivial⟩ (by exact⟨rfl,trivial⟩) ?_;exact hR.out)
  |(refine DC.t (T.append _ _ _ TySl.h TyIn.h rfl (by decide) (by decide) (by first|rfl|assumption|exact gl_ (fun _=>rfl) _|(simp [oneL,oneD,Value.oneCell'] <;> fail)) (by omega)) ⟨rfl,rfl,trivial⟩ ⟨rfl,trivial⟩ ?_;exact hR.out)
  |(refine DC.t (T.appendOO _ _ _ TySl.h TyIn.h rfl (by decide) (by decide) (by first|rfl|assumption|exact gl_ (fun _=>rfl) _|(simp [oneL,oneD,Value.oneCell'] <;> fail)) (by omega)) ⟨rfl,rfl,trivial⟩ ⟨rfl,rfl,trivial⟩ ?_;exact hR.out)
  |(refine DC.t (T.appendG _ _ _ TySl.h TyIn.h rfl (by decide) (by decide) Le.empty rfl (by omega)) ⟨rfl,rfl,trivial⟩ ⟨rfl,trivial⟩ ?_;exact hR.out)
 ):DC P N ops i (⟨dst,.call { callee:= .builtin b,args:=ar,argTypes:=ts },ty,pos,af,gd⟩::l) s acc K:=h ⟨k⟩
theorem DC.is_builtin {ops:Array Oper} {i:Nat} {dst:Option Tmp} {ty:TypeId} {pos:String} {af:Array Edge} {gd:Option (Nat × Bool)} {l:List Oper} {s:DS} {acc:List Sd} {K:DS→List Sd→Prop} {b:Builtin} {ar:Array Operand} {ts:Array TypeId} (h:DC P N ops i (⟨dst,.call { callee:= .builtin b,args:=ar,argTypes:=ts },ty,pos,af,gd⟩::l) s acc K):DC P N ops i (⟨dst,.call { callee:= .builtin b,args:=ar,argTypes:=ts },ty,pos,af,gd⟩::l) s acc K:=h
theorem DC.k_callv {ops:Array Oper} {i:Nat} {dst:Option Tmp} {ty:TypeId} {pos:String} {af:Array Edge} {gd:Option (Nat × Bool)} {l:List Oper} {s:DS} {acc:List Sd} {K:DS→List Sd→Prop} {x:Operand} {ar:Array Operand} {ts:Array TypeId} {R:Prop} (k:R) (h:Hid R→DC P N ops i (⟨dst,.call { callee:= .value x,args:=ar,argTypes:=ts },ty,pos,af,gd⟩::l) s acc K:=by
 intro hR
 first
  |(refine DC.t (T.callOwn1 _ EntC.h (by assumption) (by first|rfl|assumption|exact bD_pers _) rfl) ⟨rfl,trivial⟩ (by exact⟨rfl,trivial⟩) ?_;exact hR.out)
  |(refine DC.t (T.call (ar:=[]) (ds':=[]) EntC.h (by assumption) rfl (by first|rfl|assumption|exact PersL.h|exact PersD.h) (LeL.refl _)) trivial trivial ?_;exact hR.out)
  |(refine DC.t (T.call (ar:=[_]) (ds':=[_]) EntC.h (by assumption) rfl (by first|rfl|assumption|exact PersL.h|exact PersD.h) (LeL.refl _)) ⟨rfl,trivial⟩ trivial ?_;exact hR.out)
  |(refine DC.t (T.call (ar:=[_,_]) (ds':=[_,_]) EntC.h (by assumption) rfl (by first|rfl|assumption|exact PersL.h|exact PersD.h) (LeL.refl _)) ⟨rfl,rfl,trivial⟩ trivial ?_;exact hR.out)
  |(refine DC.t (T.call (ar:=[_,_,_]) (ds':=[_,_,_]) EntC.h (by assumption) rfl (by first|rfl|assumption|exact PersL.h|exact PersD.h) (LeL.refl _)) ⟨rfl,rfl,rfl,trivial⟩ trivial ?_;exact hR.out)
  |(refine DC.t (T.call (ar:=[_,_,_,_]) (ds':=[_,_,_,_]) EntC.h (by assumption) rfl (by first|rfl|assumption|exact PersL.h|exact PersD.h) (LeL.refl _)) ⟨rfl,rfl,rfl,rfl,trivial⟩ trivial ?_;exact hR.out)
  |(refine DC.t (T.call (ar:=[_,_,_,_,_]) (ds':=[_,_,_,_,_]) EntC.h (by assumption) rfl (by first|rfl|assumption|exact PersL.h|exact PersD.h) (LeL.refl _)) ⟨rfl,rfl,rfl,rfl,rfl,trivial⟩ trivial ?_;exact hR.out)
  |(refine DC.t (T.call (ar:=[_,_,_,_,_,_]) (ds':=[_,_,_,_,_,_]) EntC.h (by assumption) rfl (by first|rfl|assumption|exact PersL.h|exact PersD.h) (LeL.refl _)) ⟨rfl,rfl,rfl,rfl,rfl,rfl,trivial⟩ trivial ?_;exact hR.out)
  |(refine DC.t (T.lendA (ar:=[]) (ds:=[]) EntC.h (by assumption) rfl VlL.auto (by rfl) (by first|rfl|decide +kernel) EsL.auto) trivial (by repeat (first|exact trivial|refine⟨rfl,?_⟩)) ?_;exact hR.out)
  |(refine DC.t (T.lendA (ar:=[_]) (ds:=[_]) EntC.h (by assumption) rfl VlL.auto (by rfl) (by first|rfl|decide +kernel) EsL.auto) ⟨rfl,trivial⟩ (by repeat (first|exact trivial|refine⟨rfl,?_⟩)) ?_;exact hR.out)
  |(refine DC.t (T.lendA (ar:=[_,_]) (ds:=[_,_]) EntC.h (by assumption) rfl VlL.auto (by rfl) (by first|rfl|decide +kernel) EsL.auto) ⟨rfl,rfl,trivial⟩ (by repeat (first|exact trivial|refine⟨rfl,?_⟩)) ?_;exact hR.out)
  |(refine DC.t (T.lendA (ar:=[_,_,_]) (ds:=[_,_,_]) EntC.h (by assumption) rfl VlL.auto (by rfl) (by first|rfl|decide +kernel) EsL.auto) ⟨rfl,rfl,rfl,trivial⟩ (by repeat (first|exact trivial|refine⟨rfl,?_⟩)) ?_;exact hR.out)
  |(refine DC.t (T.lendA (ar:=[_,_,_,_]) (ds:=[_,_,_,_]) EntC.h (by assumption) rfl VlL.auto (by rfl) (by first|rfl|decide +kernel) EsL.auto) ⟨rfl,rfl,rfl,rfl,trivial⟩ (by repeat (first|exact trivial|refine⟨rfl,?_⟩)) ?_;exact hR.out)
  |(refine DC.t (T.lendA (ar:=[_,_,_,_,_]) (ds:=[_,_,_,_,_]) EntC.h (by assumption) rfl VlL.auto (by rfl) (by first|rfl|decide +kernel) EsL.auto) ⟨rfl,rfl,rfl,rfl,rfl,trivial⟩ (by repeat (first|exact trivial|refine⟨rfl,?_⟩)) ?_;exact hR.out)
  |(refine DC.t (T.lendA (ar:=[_,_,_,_,_,_]) (ds:=[_,_,_,_,_,_]) EntC.h (by assumption) rfl VlL.auto (by rfl) (by first|rfl|decide +kernel) EsL.auto) ⟨rfl,rfl,rfl,rfl,rfl,rfl,trivial⟩ (by repeat (first|exact trivial|refine⟨rfl,?_⟩)) ?_;exact hR.out)
  |(refine DC.t (T.callCA (ar:=[]) (ds:=[]) (by first|exact EntC.h|assumption) (by assumption) rfl (by first|rfl|assumption) rfl) ⟨rfl,trivial⟩ trivial ?_;exact hR.out)
  |(refine DC.t (T.lendCA (ar:=[]) (ds:=[]) (by first|exact EntC.h|assumption) (by assumption) rfl VlL.auto (by rfl) (by first|rfl|decide +kernel) EsL.auto) ⟨rfl,trivial⟩ (by repeat (first|exact trivial|refine⟨rfl,?_⟩)) ?_;exact hR.out)
  |(refine DC.t (T.callCA (ar:=[_]) (ds:=[_]) (by first|exact EntC.h|assumption) (by assumption) rfl (by first|rfl|assumption) rfl) ⟨rfl,rfl,trivial⟩ trivial ?_;exact hR.out)
  |(refine DC.t (T.lendCA (ar:=[_]) (ds:=[_]) (by first|exact EntC.h|assumption) (by assumption) rfl VlL.auto (by rfl) (by first|rfl|decide +kernel) EsL.auto) ⟨rfl,rfl,trivial⟩ (by repeat (first|exact trivial|refine⟨rfl,?_⟩)) ?_;exact hR.out)
  |(refine DC.t (T.callCA (ar:=[_,_]) (ds:=[_,_]) (by first|exact EntC.h|assumption) (by assumption) rfl (by first|rfl|assumption) rfl) ⟨rfl,rfl,rfl,trivial⟩ trivial ?_;exact hR.out)
  |(refine DC.t (T.lendCA (ar:=[_,_]) (ds:=[_,_]) (by first|exact EntC.h|assumption) (by assumption) rfl VlL.auto (by rfl) (by first|rfl|decide +kernel) EsL.auto) ⟨rfl,rfl,rfl,trivial⟩ (by repeat (first|exact trivial|refine⟨rfl,?_⟩)) ?_;exact hR.out)
  |(refine DC.t (T.callCA (ar:=[_,_,_]) (ds:=[_,_,_]) (by first|exact EntC.h|assumption) (by assumption) rfl (by first|rfl|assumption) rfl) ⟨rfl,rfl,rfl,rfl,trivial⟩ trivial ?_;exact hR.out)
  |(refine DC.t (T.lendCA (ar:=[_,_,_]) (ds:=[_,_,_]) (by first|exact EntC.h|assumption) (by assumption) rfl VlL.auto (by rfl) (by first|rfl|decide +kernel) EsL.auto) ⟨rfl,rfl,rfl,rfl,trivial⟩ (by repeat (first|exact trivial|refine⟨rfl,?_⟩)) ?_;exact hR.out)
  |(refine DC.t (T.yieldA (ar:=[_]) (ds:=[_]) (by assumption) rfl VlL.auto (by rfl) (by first|rfl|decide +kernel) EsL.auto rfl) ⟨rfl,rfl,trivial⟩ (by repeat (first|exact trivial|refine⟨rfl,?_⟩)) ?_;exact hR.out)
  |(refine DC.t (T.yieldA (ar:=[_,_]) (ds:=[_,_]) (by assumption) rfl VlL.auto (by rfl) (by first|rfl|decide +kernel) EsL.auto rfl) ⟨rfl,rfl,rfl,trivial⟩ (by repeat (first|exact trivial|refine⟨rfl,?_⟩)) ?_;exact hR.out)
  |(refine DC.t (T.callL (ar:=[_]) (ds':=[_]) EntC.h (by assumption) rfl rfl (by repeat (first|exact trivial|refine LeL.cons (by first|exact Le.refl _|exact Le.nil _ _|exact Le.full) ?_))) ⟨rfl,trivial⟩ trivial ?_;exact hR.out)
  |(refine DC.t (T.callL (ar:=[_,_]) (ds':=[_,_]) EntC.h (by assumption) rfl rfl (by repeat (first|exact trivial|refine LeL.cons (by first|exact Le.refl _|exact Le.nil _ _|exact Le.full) ?_))) ⟨rfl,rfl,trivial⟩ trivial ?_;exact hR.out)
  |(refine DC.t (T.callL (ar:=[_,_,_]) (ds':=[_,_,_]) EntC.h (by assumption) rfl rfl (by repeat (first|exact trivial|refine LeL.cons (by first|exact Le.refl _|exact Le.nil _ _|exact Le.full) ?_))) ⟨rfl,rfl,rfl,trivial⟩ trivial ?_;exact hR.out)
  |(refine DC.t (T.callL (ar:=[_,_,_,_]) (ds':=[_,_,_,_]) EntC.h (by assumption) rfl rfl (by repeat (first|exact trivial|refine LeL.cons (by first|exact Le.refl _|exact Le.nil _ _|exact Le.full) ?_))) ⟨rfl,rfl,rfl,rfl,trivial⟩ trivial ?_;exact hR.out)
  |(refine DC.callV (ar:=[_]) (ds':=[_]) EntC.h (by assumption) rfl ⟨rfl,trivial⟩ (by dsimp only [peOf,idsOf,evalD,lkF,lkE,updF,Nat.beq,Nat.reduceBEq,cond_true,cond_false,List.cons_append,List.nil_append,List.append_nil,argF,Nat.reduceAdd,Nat.reduceMul,spliceD,List.take,List.drop,List.length,flats,Value.cells,List.map,List.set];first|done|exact rfl) VwL.auto4 rfl ?_;exact hR.out)
  |(refine DC.callV (ar:=[_,_]) (ds':=[_,_]) EntC.h (by assumption) rfl ⟨rfl,rfl,trivial⟩ (by dsimp only [peOf,idsOf,evalD,lkF,lkE,updF,Nat.beq,Nat.reduceBEq,cond_true,cond_false,List.cons_append,List.nil_append,List.append_nil,argF,Nat.reduceAdd,Nat.reduceMul,spliceD,List.take,List.drop,List.length,flats,Value.cells,List.map,List.set];first|done|exact rfl) VwL.auto4 rfl ?_;exact hR.out)
  |(refine DC.callV (ar:=[_,_,_]) (ds':=[_,_,_]) EntC.h (by assumption) rfl ⟨rfl,rfl,rfl,trivial⟩ (by dsimp only [peOf,idsOf,evalD,lkF,lkE,updF,Nat.beq,Nat.reduceBEq,cond_true,cond_false,List.cons_append,List.nil_append,List.append_nil,argF,Nat.reduceAdd,Nat.reduceMul,spliceD,List.take,List.drop,List.length,flats,Value.cells,List.map,List.set];first|done|exact rfl) VwL.auto4 rfl ?_;exact hR.out)
  |(refine DC.callV (ar:=[_,_,_,_]) (ds':=[_,_,_,_]) EntC.h (by assumption) rfl ⟨rfl,rfl,rfl,rfl,trivial⟩ (by dsimp only [peOf,idsOf,evalD,lkF,lkE,updF,Nat.beq,Nat.reduceBEq,cond_true,cond_false,List.cons_append,List.nil_append,List.append_nil,argF,Nat.reduceAdd,Nat.reduceMul,spliceD,List.take,List.drop,List.length,flats,Value.cells,List.map,List.set];first|done|exact rfl) VwL.auto4 rfl ?_;exact hR.out)
 ):DC P N ops i (⟨dst,.call { callee:= .value x,args:=ar,argTypes:=ts },ty,pos,af,gd⟩::l) s acc K:=h ⟨k⟩
theorem DC.is_callv {ops:Array Oper} {i:Nat} {dst:Option Tmp} {ty:TypeId} {pos:String} {af:Array Edge} {gd:Option (Nat × Bool)} {l:List Oper} {s:DS} {acc:List Sd} {K:DS→List Sd→Prop} {x:Operand} {ar:Array Operand} {ts:Array TypeId} (h:DC P N ops i (⟨dst,.call { callee:= .value x,args:=ar,argTypes:=ts },ty,pos,af,gd⟩::l) s acc K):DC P N ops i (⟨dst,.call { callee:= .value x,args:=ar,argTypes:=ts },ty,pos,af,gd⟩::l) s acc K:=h
theorem DC.offG1 {ops:Array Oper} {i j:Nat} {t:Tmp} {p:Bool} {o:Oper} {l:List Oper} {s:DS} {acc:List Sd} {K:DS→List Sd→Prop}
 (hg:o.guard=some (j,true)) (hj:(ops[j]?).bind (·.dst)=some t) (hv:lkF s.f t= .flat (.bool p)) (hk:DC P N ops (i+1) l ⟨updF s.f o.dst (.flat undef),s.σ⟩ (⟨o.dst,[(.tmp t,.flat (.bool p))],[],.flat undef,[]⟩::acc) K) (hp:p=false:=by first|with_reducible rfl|with_reducible assumption|(refine decide_eq_true ?_;first|omega|with_reducible assumption|fail)|(refine decide_eq_false ?_;first|omega|with_reducible assumption|fail)|decide|(simp only [Bool.and_true,Bool.true_and,Bool.and_false,Bool.false_and,Bool.or_true,Bool.true_or,Bool.or_false,Bool.false_or,Bool.not_true,Bool.not_false,Option.isNone_none,Option.isNone_some,beq_self_eq_true] <;> fail)|fail) (htn:t<N % 512:=by decide) (hd:dstOk N o.dst=true:=by rfl):DC P N ops i (o::l) s acc K:=DC.offB hg hj hv hp htn hk hd
theorem DC.offG2 {ops:Array Oper} {i j:Nat} {t:Tmp} {p:Bool} {o:Oper} {l:List Oper} {s:DS} {acc:List Sd} {K:DS→List Sd→Prop}
 (hg:o.guard=some (j,false)) (hj:(ops[j]?).bind (·.dst)=some t) (hv:lkF s.f t= .flat (.bool p)) (hk:DC P N ops (i+1) l ⟨updF s.f o.dst (.flat undef),s.σ⟩ (⟨o.dst,[(.tmp t,.flat (.bool p))],[],.flat undef,[]⟩::acc) K) (hp:p=true:=by first|with_reducible rfl|with_reducible assumption|(refine decide_eq_true ?_;first|omega|with_reducible assumption|fail)|(refine decide_eq_false ?_;first|omega|with_reducible assumption|fail)|decide|(simp only [Bool.and_true,Bool.true_and,Bool.and_false,Bool.false_and,Bool.or_true,Bool.true_or,Bool.or_false,Bool.false_or,Bool.not_true,Bool.not_false,Option.isNone_none,Option.isNone_some,beq_self_eq_true] <;> fail)|fail) (htn:t<N % 512:=by decide) (hd:dstOk N o.dst=true:=by rfl):DC P N ops i (o::l) s acc K:=DC.offB hg hj hv hp htn hk hd
theorem DW.cT {p:Bool} {c:Operand} {x y:Code} (hc:evalD s.f c= .flat (.bool p)) (h:DW P N x s Q) (hp:p=true:=by first|with_reducible rfl|with_reducible assumption|(refine decide_eq_true ?_;first|omega|with_reducible assumption|fail)|(refine decide_eq_false ?_;first|omega|with_reducible assumption|fail)|decide|(simp only [Bool.and_true,Bool.true_and,Bool.and_false,Bool.false_and,Bool.or_true,Bool.true_or,Bool.or_false,Bool.false_or,Bool.not_true,Bool.not_false,Option.isNone_none,Option.isNone_some,beq_self_eq_true] <;> fail)|fail):DW P N (.cond c x y) s Q:=DW.condT' hc hp h
theorem DW.cF {p:Bool} {c:Operand} {x y:Code} (hc:evalD s.f c= .flat (.bool p)) (h:DW P N y s Q) (hp:p=false:=by first|with_reducible rfl|with_reducible assumption|(refine decide_eq_true ?_;first|omega|with_reducible assumption|fail)|(refine decide_eq_false ?_;first|omega|with_reducible assumption|fail)|decide|(simp only [Bool.and_true,Bool.true_and,Bool.and_false,Bool.false_and,Bool.or_true,Bool.true_or,Bool.or_false,Bool.false_or,Bool.not_true,Bool.not_false,Option.isNone_none,Option.isNone_some,beq_self_eq_true] <;> fail)|fail):DW P N (.cond c x y) s Q:=DW.condF' hc hp h
end
end Go.Dm
