/- A machine over data: maps with keys of any kind. No condition. -/
import Derived.Test.YtichhfbkhnimmaaUAr
import Derived.Lib.UnsafeStr
set_option linter.unusedSimpArgs false
set_option linter.unusedVariables false
set_option linter.unusedSectionVars false
set_option maxHeartbeats 400000
namespace Go.Dm
open Go Go.RowKit Go.PP
variable [GlobW] [Rnd]
structure IsV (d:D) (v:Value):Prop where
 h:∀ (M:Nat→Prop) (w:World) (G:Cx) (u:Value),Rep M w G d u→u=v
theorem IsV.flat {v:Value}:IsV (.flat v) v:=⟨fun M w G u h=>by simpa only [Rep] using h⟩
theorem j9_ {M:Nat→Prop} {w:World} {G:Cx}:∀ (vs us:List Value),RepL M w G (vs.map D.flat) us→us=vs
 | [],us,h=>by simpa only [List.map_nil,RepL] using h
 |v::vs,us,h=>by
  simp only [List.map_cons,RepL,Rep] at h
  obtain⟨u,r,rfl,rfl,h2⟩:=h
  rw [j9_ vs r h2]
theorem IsV.agg {cs:List D} (vs:List Value) (h:cs=vs.map D.flat):IsV (.agg cs) (.agg vs.toArray):=⟨fun M w G u hu=>by
 simp only [Rep] at hu
 obtain⟨us,rfl,h2⟩:=hu
 rw [h] at h2
 rw [j9_ vs us h2]⟩
structure KeysOk (P:Program) (tk:TypeId) (ks:List Value):Prop where
 law:Maps.Keyed P tk
 lit:∀ k∈ks,∃ l,keyOf P tk k=some l
 nd:ks.Nodup
structure LookT (P:Program) (tk:TypeId) (ks:List Value) (v:Value) (i:Nat):Prop where
 ok:KeysOk P tk ks
 hi:ks[i]?=some v
structure LookN (P:Program) (tk:TypeId) (ks:List Value) (v:Value):Prop where
 ok:KeysOk P tk ks
 lit:∃ l,keyOf P tk v=some l
 hn:v ∉ ks
theorem KeysOk.nil {P:Program} {tk:TypeId} (h:Maps.Keyed P tk):KeysOk P tk []:=⟨h,(fun k hk=>by cases hk),List.nodup_nil⟩
theorem LookN.snoc {P:Program} {tk:TypeId} {ks:List Value} {v:Value} (h:LookN P tk ks v):KeysOk P tk (ks++ [v]):=⟨h.ok.law,fun k hk=>by
 rcases List.mem_append.1 hk with hk|hk
 ·exact h.ok.lit k hk
 ·rw [List.mem_singleton] at hk;subst hk;exact h.lit,List.nodup_append.2 ⟨h.ok.nd,List.nodup_cons.2 ⟨(by intro h;cases h),List.nodup_nil⟩,fun a ha b hb e=>by
  rw [List.mem_singleton] at hb;subst hb;subst e;exact h.hn ha⟩⟩
section
variable {P:Program} {N:Nat} {dst:Option Tmp} {ty:TypeId} {pos:String} {af:Array Edge} {gd:Option (Nat × Bool)} {tk:TypeId} {ks:List Value} {v:Value}
theorem LookN.run (h:LookN P tk ks v) (w:World) {es:List MapEntry} (he:es.map (·.key)=ks):(Instr.findKey tk v es).run P w= .ok none w:=by
 obtain⟨l,hl⟩:=h.lit
 rcases h.ok.law.find w hl es (fun e hm=>h.ok.lit e.key (by rw [← he];exact List.mem_map_of_mem hm)) with⟨h1,_⟩| ⟨j,e,h1,h2,h3⟩
 ·exact h1
 ·exact absurd (by rw [← he,← h3];exact List.mem_map_of_mem (List.mem_of_getElem? h2)) h.hn
theorem LookT.run {i:Nat} (h:LookT P tk ks v i) (w:World) {es:List MapEntry} (he:es.map (·.key)=ks):∃ e,(Instr.findKey tk v es).run P w= .ok (some (i,e.val)) w∧es[i]?=some e∧e.key=v:=by
 have hm:=List.mem_of_getElem? h.hi
 obtain⟨l,hl⟩:=h.ok.lit v hm
 rcases h.ok.law.find w hl es (fun e hm=>h.ok.lit e.key (by rw [← he];exact List.mem_map_of_mem hm)) with⟨_,h1⟩| ⟨j,e,h1,h2,h3⟩
 ·rw [← he] at hm
  obtain⟨e,he1,he2⟩:=List.mem_map.1 hm
  exact absurd he2 (h1 e he1)
 ·have hj:ks[j]?=some v:=by rw [← he,List.getElem?_map,h2,Option.map_some,h3]
  have hji:j=i:=(List.getElem?_inj (List.getElem?_eq_some_iff.1 hj).1 h.ok.nd).1 (hj.trans h.hi.symm)
  subst hji
  exact⟨e,h1,h2,h3⟩
theorem LookT.check {i:Nat} (h:LookT P tk ks v i) (w:World) (b:Bool):(Instr.checkKey b 10000 tk v).run P w= .ok () w:=by
 obtain⟨l,hl⟩:=h.ok.lit v (List.mem_of_getElem? h.hi)
 exact h.ok.law.check w b hl
theorem LookN.check (h:LookN P tk ks v) (w:World) (b:Bool):(Instr.checkKey b 10000 tk v).run P w= .ok () w:=by
 obtain⟨l,hl⟩:=h.lit
 exact h.ok.law.check w b hl
theorem re_ {M:Nat→Prop} {w:World} {g:Gh} {σ:Sg} {id:Nat} {u:Value} (h:Rep M w (some (g,σ)) (.mp id) u):u= .map (some (g.blk id)):=by
 simp only [Rep] at h
 obtain⟨g',σ',cs,hG,_,hx⟩:=h
 cases hG
 exact hx
theorem T.lookupNF {id te:Nat} {ds:List D} {z:Value} {d:D} (t:TypeId) (x y:Operand) (ht:P.underlying t=some (.map tk te)) (hz:zeroT P te=some z) (hv:IsV d v) (h:LookN P tk ks v):
  Tri P N ⟨dst,.lookup t x y false,ty,pos,af,gd⟩ [(x,.mp id),(y,d)] [(id,some (.box (.keys ks::ds)))] (.flat z) []:=Tri.read fun w0 M0 B0 g s a w hs hE hw=>by
 obtain⟨u,es,clock,h1,h2,h3⟩:=it_ hs hE.1
 have hx:=re_ hw.1
 have hy:=hv.h _ _ _ _ hw.2.1
 refine⟨z,w,?_,Mut.refl _ w,by simp only [Rep]⟩
 simp only [execOp,Instr.lookup,Sem.run_bind,ai_ ht,Result.andThen_ok,hx,dp_ h1,Sem.run_pure,hy,h.check,h.run w h2,d9_ hz]
 rfl
theorem T.lookupNT {id te:Nat} {ds:List D} {z:Value} {d:D} (t:TypeId) (x y:Operand) (ht:P.underlying t=some (.map tk te)) (hz:zeroT P te=some z) (hv:IsV d v) (h:LookN P tk ks v):
  Tri P N ⟨dst,.lookup t x y true,ty,pos,af,gd⟩ [(x,.mp id),(y,d)] [(id,some (.box (.keys ks::ds)))] (.tup [.flat z,.flat (.bool false)]) []:=Tri.read fun w0 M0 B0 g s a w hs hE hw=>by
 obtain⟨u,es,clock,h1,h2,h3⟩:=it_ hs hE.1
 have hx:=re_ hw.1
 have hy:=hv.h _ _ _ _ hw.2.1
 refine⟨.tuple #[z,.bool false],w,?_,Mut.refl _ w,by simp only [Rep,RepL];exact⟨_,rfl,_,_,rfl,rfl,_,_,rfl,rfl,rfl⟩⟩
 simp only [execOp,Instr.lookup,Sem.run_bind,ai_ ht,Result.andThen_ok,hx,dp_ h1,Sem.run_pure,hy,h.check,h.run w h2,d9_ hz]
 rfl
theorem T.lookupTF {id te i:Nat} {ds:List D} {d dv:D} (t:TypeId) (x y:Operand) (ht:P.underlying t=some (.map tk te)) (hv:IsV d v) (h:LookT P tk ks v i) (hd:ds[i]?=some dv):
  Tri P N ⟨dst,.lookup t x y false,ty,pos,af,gd⟩ [(x,.mp id),(y,d)] [(id,some (.box (.keys ks::ds)))] dv []:=Tri.read fun w0 M0 B0 g s a w hs hE hw=>by
 obtain⟨u,es,clock,h1,h2,h3⟩:=it_ hs hE.1
 have hx:=re_ hw.1
 have hy:=hv.h _ _ _ _ hw.2.1
 obtain⟨e,q1,q2,q3⟩:=h.run w h2
 obtain⟨y',q4,q5⟩:=h3.get i hd
 rw [List.getElem?_map,q2,Option.map_some] at q4
 cases q4
 refine⟨e.val,w,?_,Mut.refl _ w,q5⟩
 simp only [execOp,Instr.lookup,Sem.run_bind,ai_ ht,Result.andThen_ok,hx,dp_ h1,Sem.run_pure,hy,h.check,q1]
 rfl
theorem T.lookupTT {id te i:Nat} {ds:List D} {d dv:D} (t:TypeId) (x y:Operand) (ht:P.underlying t=some (.map tk te)) (hv:IsV d v) (h:LookT P tk ks v i) (hd:ds[i]?=some dv):
  Tri P N ⟨dst,.lookup t x y true,ty,pos,af,gd⟩ [(x,.mp id),(y,d)] [(id,some (.box (.keys ks::ds)))] (.tup [dv,.flat (.bool true)]) []:=Tri.read fun w0 M0 B0 g s a w hs hE hw=>by
 obtain⟨u,es,clock,h1,h2,h3⟩:=it_ hs hE.1
 have hx:=re_ hw.1
 have hy:=hv.h _ _ _ _ hw.2.1
 obtain⟨e,q1,q2,q3⟩:=h.run w h2
 obtain⟨y',q4,q5⟩:=h3.get i hd
 rw [List.getElem?_map,q2,Option.map_some] at q4
 cases q4
 refine⟨.tuple #[e.val,.bool true],w,?_,Mut.refl _ w,by simp only [Rep,RepL];exact⟨_,rfl,_,_,rfl,q5,_,_,rfl,rfl,rfl⟩⟩
 simp only [execOp,Instr.lookup,Sem.run_bind,ai_ ht,Result.andThen_ok,hx,dp_ h1,Sem.run_pure,hy,h.check,q1]
 rfl
theorem map_set {o:Oper} {id:Nat} {ks':List Value} {ds ds':List D} {pf:List (Operand × D)} (hrun:∀ (w0:World) (M0:Nat→Prop) (B0:Bd) (g:Gh) (s:DS) (a:Act) (w:World),StG w0 M0 B0 N g s a w→Vals (Mx M0 g s.σ) w (some (g,s.σ)) a.eval pf→ ∀ (es:Array MapEntry) (clock:Nat),w.heap[g.blk id]?=some (.map es clock)→es.toList.map (·.key)=ks→RepL (Mx M0 g s.σ) w (some (g,s.σ)) ds (es.toList.map (·.val))→
  ∃ (es':Array MapEntry) (clock':Nat),(execOp a.eval o).run P w= .ok .skip { w with heap:=w.heap.setIfInBounds (g.blk id) (.map es' clock') }∧es'.toList.map (·.key)=ks'∧RepL (Mx M0 g s.σ) w (some (g,s.σ)) ds' (es'.toList.map (·.val))):
  Tri P N o pf [(id,some (.box (.keys ks::ds)))] (.flat undef) [(id,some (.box (.keys ks'::ds')))]:=by
 refine⟨?_⟩
 intro w0 M0 B0 s a w next Q h1 h2 hd ⟨g,hs⟩ hkk
 have he:=h2.1
 obtain⟨u,es,clock,o1,o2,o3⟩:=it_ hs he
 obtain⟨es',clock',hex,q1,q2⟩:=hrun w0 M0 B0 g s a w hs (hs.vals h1) es clock o1 o2 o3
 let o':Obj:= .map es' clock'
 let w':World:={ w with heap:=w.heap.setIfInBounds (g.blk id) o' }
 refine iq_ (w':=w') hex ?_
 have hbo:blkOf g s.σ id=some (g.blk id):=by unfold blkOf;rw [he]
 have hlt:g.blk id<w.heap.size:=(Array.getElem?_eq_some_iff.1 o1).1
 have hm:Mut (fun b=>blkOf g s.σ id=some b) w w':=⟨rfl,rfl,rfl,by simp [w'],fun b hb hn=>by
  have:g.blk id≠b:=fun e=>hn (by rw [hbo,e])
  simp [w',Array.getElem?_setIfInBounds,this]⟩
 have hS:∀ b,b<w.heap.size→blkOf g s.σ id=some b→Mx M0 g s.σ b:=fun b _ hb=> .inr ⟨id,hb⟩
 have hgr:Grow (g,s.σ) (g,(id,some (.box (.keys ks'::ds')))::s.σ):=⟨fun k c1 hk=>by
   by_cases e2:id=k
   ·subst e2;exact⟨⟨_,by rw [aa_,if_pos rfl]⟩,rfl⟩
   ·exact⟨⟨c1,by rw [aa_,if_neg e2];exact hk⟩,rfl⟩,fun k e1 n1 l1 c1 hk=>by
   by_cases e2:id=k
   ·subst e2;simp only at hk;rw [he] at hk;cases hk
   ·exact .inr ⟨e1,n1,l1,c1,by rw [aa_,if_neg e2];exact hk,Nat.le_refl _,fun _=>rfl⟩,fun k hk=>by
   have hne:¬ id=k:=fun e1=>by subst e1;simp only at hk;rw [he] at hk;cases hk
   simp only at hk ⊢
   rw [aa_,if_neg hne];exact hk⟩
 refine hkk _ _ ⟨g,hs.set1 id (.box (.keys ks'::ds')) (fun h0=>by rw [he] at h0;cases h0) hm (fun _ _=>rfl) (fun _ _=>rfl) hgr (fun b hb=>?_) (fun M hM=>?_) hd (fun M hM=>by simp only [Rep])⟩
 ·simp only [blkOf,aa_,if_pos,Option.some.injEq] at hb
  subst hb
  exact⟨Nat.lt_of_lt_of_le hlt hm.size,fun _=>hbo⟩
 ·refine⟨undef::es'.toList.map (·.val),o',?_,?_,?_⟩
  ·simp [w',Array.getElem?_setIfInBounds,hlt]
  ·have h6:=RepL.step (G:=some _) (G':=some _) hgr hm hS hM _ _ q2
   simp only [RepL,Rep]
   exact⟨_,_,rfl,trivial,h6⟩
  ·unfold ObjIs keysOf
   exact⟨_,_,rfl,q1,rfl⟩
theorem pq_ {te:Nat} {t:TypeId} {w:World} {r:Nat} {es:Array MapEntry} {clock:Nat} (ht:P.underlying t=some (.map tk te)) (h:LookN P tk ks v) (hr:w.heap[r]?=some (.map es clock)) (he:es.toList.map (·.key)=ks) (x:Value):
  (Instr.mapUpdate t (.map (some r)) v x).run P w= .ok () { w with heap:=w.heap.setIfInBounds r (.map (es.push { key:=v,val:=x,born:=clock }) (clock+1)) }:=by
 simp only [Instr.mapUpdate,Sem.run_bind,ai_ ht,Result.andThen_ok,dp_ hr,h.check,h.run w he,oc_ hr]
theorem T.putN {id te:Nat} {ds:List D} {d dv:D} (t:TypeId) (x y e:Operand) (ht:P.underlying t=some (.map tk te)) (hv:IsV d v) (h:LookN P tk ks v):
  Tri P N ⟨dst,.mapUpdate t x y e,ty,pos,af,gd⟩ [(x,.mp id),(y,d),(e,dv)] [(id,some (.box (.keys ks::ds)))] (.flat undef) [(id,some (.box (.keys (ks++ [v])::(ds++ [dv]))))]:=
 map_set fun w0 M0 B0 g s a w hs hw es clock h1 h2 h3=>by
  refine⟨es.push { key:=v,val:=a.eval e,born:=clock },clock+1,?_,?_,?_⟩
  ·simp only [execOp,re_ hw.1,hv.h _ _ _ _ hw.2.1,Sem.run_bind,pq_ ht h h1 h2]
   rfl
  ·simp [h2]
  ·simpa using RepL.append h3 (by simp only [RepL];exact⟨_,_,rfl,hw.2.2.1,rfl⟩)
theorem T.insN {id te:Nat} {ds:List D} {d dv:D} (t:TypeId) (x y e:Operand) (ht:P.underlying t=some (.map tk te)) (hv:IsV d v) (h:LookN P tk ks v):
  Tri P N ⟨dst,.insert t x y e,ty,pos,af,gd⟩ [(x,.mp id),(y,d),(e,dv)] [(id,some (.box (.keys ks::ds)))] (.flat undef) [(id,some (.box (.keys (ks++ [v])::(ds++ [dv]))))]:=
 map_set fun w0 M0 B0 g s a w hs hw es clock h1 h2 h3=>by
  refine⟨es.push { key:=v,val:=a.eval e,born:=clock },clock+1,?_,?_,?_⟩
  ·simp only [execOp,re_ hw.1,hv.h _ _ _ _ hw.2.1,Sem.run_bind,pq_ ht h h1 h2]
   rfl
  ·simp [h2]
  ·simpa using RepL.append h3 (by simp only [RepL];exact⟨_,_,rfl,hw.2.2.1,rfl⟩)
end
end Go.Dm
namespace Go.Dm
open Go Go.RowKit Go.PP
variable [GlobW] [Rnd]
section
variable {P:Program} {N:Nat} {dst:Option Tmp} {ty:TypeId} {pos:String} {af:Array Edge} {gd:Option (Nat × Bool)}
theorem Tri.makeR {o:Oper} {pf:List (Operand × D)} {id:Nat} {T n len cap:Nat} {cs:List D} (hid:newId N id=true) (hl1:len≤cap) (hl2:cap≤maxLen)
  (hrun:∀ (M:Nat→Prop) (w:World) (G:Cx) (ρ:Operand→Value),Vals M w G ρ pf→ ∃ (vs:List Value),(execOp ρ o).run P w= .ok (.value (.slice (some ⟨w.heap.size,0,none⟩) len cap)) (w.alloc (.cells vs.toArray T))∧
    vs.length=cap*n∧RepL M w G cs (vs.take (len*n))):Tri P N o pf [(id,none)] (.own id len) [(id,some (.row T n len cs))]:=by
 refine⟨?_⟩
 intro w0 M0 B0 s a w next Q h1 h2 hd ⟨g,hs⟩ hk
 obtain⟨vs,hr,hlen,hrep⟩:=hrun _ w (some (g,s.σ)) a.eval (hs.vals h1)
 refine cy_ hr ?_
 have hno:lkE s.σ id=none:=h2.1
 have hbn:blkOf g s.σ id=none:=by unfold blkOf;rw [hno]
 have hm:Fix w (w.alloc (.cells vs.toArray T)):=(Mut.refl _ w).alloc _
 have hm':Mut (fun b=>blkOf g s.σ id=some b) w (w.alloc (.cells vs.toArray T)):=hm.mono (fun _ _ e=>e.elim)
 have hgrow:∀ g':Gh,(∀ k,k≠id→g'.blk k=g.blk k)→(∀ k,k≠id→g'.row k=g.row k)→Grow (g,s.σ) (g',(id,some (Ent.row T n len cs))::s.σ):=fun g' q1 q2=>
  ⟨fun k cs hc=>by
    have hne:k≠id:=fun e=>by subst e;simp only at hc;rw [hno] at hc;cases hc
    exact⟨⟨cs,by rw [aa_,if_neg (fun e=>hne e.symm)];exact hc⟩,q1 k hne⟩,
   fun k e n len cs hc=>by
    have hne:k≠id:=fun e=>by subst e;simp only at hc;rw [hno] at hc;cases hc
    exact .inr ⟨e,n,len,cs,by rw [aa_,if_neg (fun e=>hne e.symm)];exact hc,Nat.le_refl _,fun _=>q2 k hne⟩,
   fun k hc=>by
    have hne:k≠id:=fun e=>by subst e;simp only at hc;rw [hno] at hc;cases hc
    simp only at hc ⊢
    rw [aa_,if_neg (fun e=>hne e.symm)];exact hc⟩
 have hcap:len*n≤cap*n:=Nat.mul_le_mul_right _ hl1
 refine hk _ _ ⟨⟨g.blk,fun k=>if k=id then .slice (some ⟨w.heap.size,0,none⟩) len cap else g.row k⟩,hs.set1 (g':=⟨g.blk,fun k=>if k=id then .slice (some ⟨w.heap.size,0,none⟩) len cap else g.row k⟩) id (.row T n len cs) (fun _=>hid) hm' (fun k hk=>rfl) (fun k hk=>by simp [hk]) (hgrow _ (fun k hk=>rfl) (fun k hk=>by simp [hk])) ?_ ?_ hd ?_⟩
 ·intro b hb
  simp only [blkOf,aa_,if_pos,Value.ownBlock,Option.some.injEq] at hb
  subst hb
  exact⟨by simp,fun h=>by omega⟩
 ·intro M hM
  refine⟨vs.take (len*n),?_,RepL.step (G:=some _) (G':=some _) (hgrow ⟨g.blk,fun k=>if k=id then .slice (some ⟨w.heap.size,0,none⟩) len cap else g.row k⟩ (fun k hk=>rfl) (fun k hk=>by simp [hk])) hm (fun _ _ e=>e.elim) hM cs _ hrep⟩
  simp only [if_pos]
  exact⟨by rw [List.length_take];omega,.inr ⟨w.heap.size,0,cap,vs.toArray,(0,0),rfl,newBlock,.inl rfl,hl1,hl2,by simp [hlen],by simp⟩⟩
 ·intro M hM
  simp only [Rep]
  exact⟨_,_,rfl,.inr ⟨T,n,len,cs,by rw [aa_,if_pos rfl],Nat.le_refl _,fun _=>by simp⟩,_,_,rfl⟩
theorem v5_ {M:Nat→Prop} {w:World} {G:Cx} (z:Value) (n k:Nat) (h:k≤n):RepL M w G (List.replicate k (.flat z)) ((madeCells #[z] n).toList.take k):=by
 refine RepL.of (by simp [size_madeCells];omega) fun i d u h1 h2=>?_
 have hd:d= .flat z:=by
  rw [List.getElem?_replicate] at h1
  split at h1
  ·cases h1;rfl
  ·cases h1
 have hu:u=z:=by
  have hi:=(List.getElem?_eq_some_iff.1 h2).1
  simp [size_madeCells] at hi
  rw [List.getElem?_take,if_pos (by omega)] at h2
  simp [madeCells,show i<n by omega,Nat.mod_one] at h2
  exact h2.symm
 subst hd;subst hu
 simp only [Rep]
theorem n3_ (n:Nat) (z:Value):keysOf (List.replicate n (.flat z))=none:=by cases n <;> rfl
theorem Tri.makeB {o:Oper} {pf:List (Operand × D)} {id:Nat} {T n:Nat} {cs:List D} (hid:newId N id=true) (hko:keysOf cs=none)
  (hrun:∀ (M:Nat→Prop) (w:World) (G:Cx) (ρ:Operand→Value),Vals M w G ρ pf→ ∃ (vs:List Value),(execOp ρ o).run P w= .ok (.value (.slice (some ⟨w.heap.size,0,none⟩) n n)) (w.alloc (.cells vs.toArray T))∧
    RepL M w G cs vs):Tri P N o pf [(id,none)] (.bsl id 0 n n) [(id,some (.box cs))]:=by
 refine⟨?_⟩
 intro w0 M0 B0 s a w next Q h1 h2 hd ⟨g,hs⟩ hk
 obtain⟨vs,hr,hrep⟩:=hrun _ w (some (g,s.σ)) a.eval (hs.vals h1)
 refine cy_ hr ?_
 have hno:lkE s.σ id=none:=h2.1
 have hbn:blkOf g s.σ id=none:=by unfold blkOf;rw [hno]
 have hm:Fix w (w.alloc (.cells vs.toArray T)):=(Mut.refl _ w).alloc _
 have hm':Mut (fun b=>blkOf g s.σ id=some b) w (w.alloc (.cells vs.toArray T)):=hm.mono (fun _ _ e=>e.elim)
 have hgrow:∀ g':Gh,(∀ k,k≠id→g'.blk k=g.blk k)→(∀ k,k≠id→g'.row k=g.row k)→Grow (g,s.σ) (g',(id,some (Ent.box cs))::s.σ):=fun g' q1 q2=>
  ⟨fun k cs hc=>by
    have hne:k≠id:=fun e=>by subst e;simp only at hc;rw [hno] at hc;cases hc
    exact⟨⟨cs,by rw [aa_,if_neg (fun e=>hne e.symm)];exact hc⟩,q1 k hne⟩,
   fun k e n len cs hc=>by
    have hne:k≠id:=fun e=>by subst e;simp only at hc;rw [hno] at hc;cases hc
    exact .inr ⟨e,n,len,cs,by rw [aa_,if_neg (fun e=>hne e.symm)];exact hc,Nat.le_refl _,fun _=>q2 k hne⟩,
   fun k hc=>by
    have hne:k≠id:=fun e=>by subst e;simp only at hc;rw [hno] at hc;cases hc
    simp only at hc ⊢
    rw [aa_,if_neg (fun e=>hne e.symm)];exact hc⟩
 refine hk _ _ ⟨⟨fun k=>if k=id then w.heap.size else g.blk k,g.row⟩,hs.set1 (g':=⟨fun k=>if k=id then w.heap.size else g.blk k,g.row⟩) id (.box cs) (fun _=>hid) hm' (fun k hk=>by simp [hk]) (fun k hk=>rfl) (hgrow _ (fun k hk=>by simp [hk]) (fun k hk=>rfl)) ?_ ?_ hd ?_⟩
 ·intro b hb
  simp only [blkOf,aa_,if_pos,Option.some.injEq] at hb
  subst hb
  exact⟨by simp,fun h=>by omega⟩
 ·intro M hM
  refine⟨vs,_,by simp only [if_pos];exact newBlock,?_,ObjIs.mk hko⟩
  exact RepL.step (G:=some _) (G':=some _) (hgrow ⟨fun k=>if k=id then w.heap.size else g.blk k,g.row⟩ (fun k hk=>by simp [hk]) (fun k hk=>rfl)) hm (fun _ _ e=>e.elim) hM cs vs hrep
 ·intro M hM
  simp only [Rep]
  exact⟨_,_,cs,rfl,by rw [aa_,if_pos rfl],by simp⟩
class BoxAt (k id:Nat):Prop where
theorem T.makeBsl {e n bytes:Nat} {z:Value} {kl kc:IntKind} {lz cz:Int} (id:Nat) (t:TypeId) (x y:Operand) (ht:P.underlying t=some (.slice e)) (hinfo:(P.info? e).map (fun i=>(i.zero,i.size,i.bytes))=some (some z,1,bytes)) (hz1:z.cells= #[z])
  (n1:IsN lz n) (n2:IsN cz n) (hb:bytes*n≤281474976710656) (hn:n≤maxLen) (hid:newId N id=true:=by first|exact rfl|decide +kernel):
  Tri P N ⟨dst,.makeSlice t x y,ty,pos,af,gd⟩ [(x,.flat (.int kl lz)),(y,.flat (.int kc cz))] [(id,none)] (.bsl id 0 n n) [(id,some (.box (List.replicate n (.flat z))))]:=by
 obtain⟨rfl⟩:=n1;obtain⟨rfl⟩:=n2
 refine Tri.makeB (T:=e) hid (n3_ _ _) fun M w G ρ hv=>?_
 have hr:=run_make_row' (P:=P) t e z bytes ht hinfo hz1 kl kc n hb (by unfold maxLen at hn;omega) w
 refine⟨(madeCells #[z] n).toList,by simp only [execOp,hv.one,hv.2.one,Sem.run_bind,hr,Result.andThen_ok,Sem.run_pure,Array.toArray_toList],?_⟩
 have:=v5_ (M:=M) (w:=w) (G:=G) z n n (Nat.le_refl _)
 rwa [List.take_of_length_le (by simp [size_madeCells])] at this
theorem T.indexBsl {id off len cap e i:Nat} {k:IntKind} {z:Int} (t:TypeId) (x y:Operand) (ht:P.underlying t=some (.slice e)) (hn:sizeOfT P e=some 1) (hz:IsN z i) (h1:i<len):
  Tri P N ⟨dst,.indexAddr t x y,ty,pos,af,gd⟩ [(x,.bsl id off len cap),(y,.flat (.int k z))] [] (.ref id (off+i)) []:=Tri.val fun M w G ρ hv=>by
 obtain⟨rfl⟩:=hz
 have h2:=hv.1
 have q2:=hv.2.one
 simp only [Rep] at h2
 obtain⟨g',σ',cs0,hG,h3,h4⟩:=h2
 exact⟨.pointer (some ⟨g'.blk id,off+i,none⟩),by simp only [execOp,h4,q2,Sem.run_bind,f2_ (P:=P) (b:=g'.blk id) (o:=off) (len:=len) (cap:=cap) (k:=k) (i:=(i:Int)) w ht hn (Int.natCast_nonneg _) (by omega),Result.andThen_ok,Sem.run_pure,Int.toNat_natCast,Nat.mul_one],by simp only [Rep];exact⟨g',σ',cs0,hG,h3,rfl⟩⟩
theorem T.lenBsl {id off len cap e:Nat} (t:TypeId) (x:Operand) (ht:P.underlying t=some (.slice e)):
  Tri P N ⟨dst,.call { callee:= .builtin .len,args:= #[x],argTypes:= #[t] },ty,pos,af,gd⟩ [(x,.bsl id off len cap)] [] (.flat (.int .i64 len)) []:=Tri.val fun M w G ρ hv=>by
 have q1:=hv.1
 simp only [Rep] at q1
 obtain⟨_,_,_,_,_,r1⟩:=q1
 exact⟨_,f7_ w ρ r1 ht,by simp only [Rep]⟩
theorem T.cutBslH {id off len cap e h:Nat} {hi:Int} {k:IntKind} (t:TypeId) (x y:Operand) (ht:P.underlying t=some (.slice e)) (hn:sizeOfT P e=some 1) (n1:IsN hi h) (h2:h≤cap) (h0:0<cap):
  Tri P N ⟨dst,.slice t x none (some y) none,ty,pos,af,gd⟩ [(x,.bsl id off len cap),(y,.flat (.int k hi))] [] (.bsl id off h cap) []:=Tri.val fun M w G ρ hv=>by
 obtain⟨rfl⟩:=n1
 have q1:=hv.1
 have q2:=hv.2.one
 simp only [Rep] at q1
 obtain⟨g',σ',cs0,hG,h3,r1⟩:=q1
 have hr:=run_slice_h (P:=P) w t (some ⟨g'.blk id,off,none⟩) len cap (by rw [jg_ ht];exact ht) k h (by omega) (by omega)
 rw [jg_ ht,bt_ hn] at hr
 simp only [Result.andThen_ok,Int.toNat_natCast] at hr
 refine⟨.slice (some ⟨g'.blk id,off,none⟩) h cap,?_,by simp only [Rep];exact⟨g',σ',cs0,hG,h3,rfl⟩⟩
 simp only [execOp,r1,q2,Option.map_none,Option.map_some,Sem.run_bind,k8_ (P:=P) (n:=1) ht hr,Result.andThen_ok,Sem.run_pure]
 simp [sliced,show ¬ (cap=0) by omega,ct_]
theorem T.cutBslL {id off len cap e l:Nat} {lo:Int} {k:IntKind} (t:TypeId) (x y:Operand) (ht:P.underlying t=some (.slice e)) (hn:sizeOfT P e=some 1) (n1:IsN lo l) (h2:l≤len) (h0:l<cap):
  Tri P N ⟨dst,.slice t x (some y) none none,ty,pos,af,gd⟩ [(x,.bsl id off len cap),(y,.flat (.int k lo))] [] (.bsl id (off+l) (len - l) (cap - l)) []:=Tri.val fun M w G ρ hv=>by
 obtain⟨rfl⟩:=n1
 have q1:=hv.1
 have q2:=hv.2.one
 simp only [Rep] at q1
 obtain⟨g',σ',cs0,hG,h3,r1⟩:=q1
 have hr:=run_slice_l (P:=P) w t (some ⟨g'.blk id,off,none⟩) len cap (by rw [jg_ ht];exact ht) k l (by omega) (by omega)
 rw [jg_ ht,bt_ hn] at hr
 simp only [Result.andThen_ok,Int.toNat_natCast] at hr
 refine⟨.slice (some ⟨g'.blk id,off+l,none⟩) (len - l) (cap - l),?_,by simp only [Rep];exact⟨g',σ',cs0,hG,h3,rfl⟩⟩
 simp only [execOp,r1,q2,Option.map_none,Option.map_some,Sem.run_bind,k8_ (P:=P) (n:=1) ht hr,Result.andThen_ok,Sem.run_pure]
 simp [sliced,show ¬ (cap=l) by omega,ct_]
theorem Vl.bsl {pe:Sg} {id off len cap:Nat} {cs:List D} (hm:fnd pe id=some (some (.box cs))):Vl pe (.bsl id off len cap) (.bsl id off len cap):=fun M w g σ he _ v hv=>by
 simp only [Rep] at hv ⊢
 obtain⟨g',σ1,cs1,hG,h1,h2⟩:=hv
 cases hG
 exact⟨g,pe,cs,rfl,gr_ hm,h2⟩
theorem Vs.bsl' {σ σ':Sg} {id off len cap:Nat} {cs':List D} {x:D} (hx:x= .bsl id off len cap) (h':lkE σ' id=some (.box cs')):Vs σ σ' x (.bsl id off len cap):=by
 subst hx
 intro w0 M0 B0 N g f a w hs hM v hv
 simp only [Rep] at hv ⊢
 obtain⟨g',σ1,cs1,hG,h1,h2⟩:=hv
 cases hG
 exact⟨g,σ',cs',rfl,h',h2⟩
theorem Vw.bslA {pe:Sg} {id off len cap:Nat} {cs cs':List D} (hm:(id,some (.box cs))∈pe) (hp:VwL pe cs cs') (hl:off+len≤cs'.length) (hlc:len≤cap) (hn:cs'.length≤1000000000) (hk:keysOf cs=none:=by first|rfl|assumption):Vw pe (.bsl id off len cap) (.sl false 1 len ((cs'.drop off).take len)):=fun w0 M0 B0 N g s a w hs he v hv=>by
 have hσ:=he.mem _ hm
 simp only [Rep] at hv ⊢
 obtain⟨g',σ',cs0,hG,h1,h2⟩:=hv
 cases hG
 simp only at hσ
 obtain⟨vs,T0,o1,o2,o4⟩:=hs.ent id _ hσ
 obtain⟨T0,rfl⟩:=o4.cells hk
 have o3:=VwL.rep hs he hp o2
 have hb:blkOf g s.σ id=some (g.blk id):=by unfold blkOf;rw [hσ]
 refine⟨some ⟨g.blk id,off,none⟩,cap,h2,hlc,fun e=>(by cases e),by rw [List.length_take,List.length_drop];omega,by omega,?_⟩
 refine .inr ⟨g.blk id,off,rfl,?_,RepC.of fun i d hd=>?_⟩
 ·rintro (hq| ⟨id',hq1,hq2⟩)
  ·exact (hs.new id _ hb).2.2 hq
  ·have:=hs.sep id id' _ hb hq2
   subst this
   exact hq1 (gn_ hm)
 ·rw [List.getElem?_take] at hd
  split at hd
  ·rw [List.getElem?_drop] at hd
   obtain⟨u,hu,hr⟩:=o3.get _ hd
   exact⟨u,by simp only [World.cell?,o1];simpa using hu,hr⟩
  ·cases hd
theorem IsN.lit (n:Nat) (h:Nat.ble n 340282366920938463463374607431768211456=true):IsN (@OfNat.ofNat Int n (@instOfNat n)) (@OfNat.ofNat Nat n (instOfNatNat n)):=⟨rfl⟩
theorem T.indexSlN {f:Bool} {n len e i:Nat} {cs:List D} {k:IntKind} {z:Int} (t:TypeId) (x y:Operand) (ht:P.underlying t=some (.slice e)) (hn:sizeOfT P e=some n) (hz:IsN z i) (h1:i<len) (hp:0<n):
  Tri P N ⟨dst,.indexAddr t x y,ty,pos,af,gd⟩ [(x,.sl f n len cs),(y,.flat (.int k z))] [] (.ptr cs (i*n)) []:=by
 obtain⟨rfl⟩:=hz
 exact T.indexSl (i:=(i:Int)) t x y ht hn (by omega) (by omega) hp
theorem T.indexOwnN {id L n e i:Nat} {cs:List D} {k:IntKind} {z:Int} (t:TypeId) (x y:Operand) (ht:P.underlying t=some (.slice e)) (hn:sizeOfT P e=some n) (hz:IsN z i) (h1:i<L):
  Tri P N ⟨dst,.indexAddr t x y,ty,pos,af,gd⟩ [(x,.own id L),(y,.flat (.int k z))] [(id,some (.row e n L cs))] (.elp id L (i*n)) []:=by
 obtain⟨rfl⟩:=hz
 exact T.indexOwn (i:=(i:Int)) t x y ht hn (by omega) (by omega)
theorem T.storeElpS {id L off n e en:Nat} {cs ds out:List D} {d:D} (t:TypeId) (x y:Operand) (hs:SplD cs off ds out) (hn:sizeOfT P t=some n) (hc:cellsD d=some ds) (hl:ds.length=n) (ho:oneL ds=true) (hle:off+n≤cs.length):
  Tri P N ⟨dst,.store t x y,ty,pos,af,gd⟩ [(x,.elp id L off),(y,d)] [(id,some (.row e en L cs))] (.flat undef) [(id,some (.row e en L out))]:=by
 rw [← hs.h]
 exact T.storeElp t x y hn hc hl ho hle
theorem fill3 {n:Nat} {d d2 d3:D} {cs cs2 cs3 base:List D} (h:cellsD d=some cs) (hl:cs.length=n) (h2:cellsD d2=some cs2) (hl2:cs2.length=n) (h3:cellsD d3=some cs3) (hl3:cs3.length=n) (hb:base.length=3*n):fillD (fun i=>some (i*n,n)) base [(0,d),(1,d2),(2,d3)]=some (cs++(cs2++cs3)):=by
 simp only [fillD,h,h2,h3,Nat.zero_mul,Nat.zero_add,Nat.one_mul]
 have hs:(spliceD base 0 cs).length=base.length:=ci_ (by omega)
 have hs2:(spliceD (spliceD base 0 cs) n cs2).length=base.length:=by rw [ci_ (by omega),hs]
 rw [if_pos ⟨hl,by omega⟩,if_pos ⟨hl2,by omega⟩,if_pos ⟨hl3,by omega⟩]
 congr 1
 unfold spliceD
 have e:n+n=2*n:=by omega
 have t1:List.take n cs=cs:=List.take_of_length_le (by omega)
 simp [hl,hl2,hl3,List.take_append,List.drop_append,e,show 2*n - n=n by omega,List.take_of_length_le (show cs.length≤2*n by omega),List.take_of_length_le (show cs2.length≤n by omega)]
 omega
theorem T.buildSl3 {n e:Nat} {z:Value} {cs cs2 cs3:List D} {d d2 d3:D} (t:TypeId) (x y u:Operand) (ht:P.underlying t=some (.slice e)) (hz:zeroT P e=some z) (hn:sizeOfT P e=some n) (hd:cellsD d=some cs) (hl:cs.length=n) (hd2:cellsD d2=some cs2) (hl2:cs2.length=n) (hd3:cellsD d3=some cs3) (hl3:cs3.length=n) (hs:n≤1048576) (hp:persL (cs++(cs2++cs3))=true):
  Tri P N ⟨dst,.buildSlice t 3 #[(0,x),(1,y),(2,u)],ty,pos,af,gd⟩ [(x,d),(y,d2),(u,d3)] [] (.sl true n 3 (cs++(cs2++cs3))) []:=
 T.buildSl t [(0,x,d),(1,y,d2),(2,u,d3)] ht hz hn (by omega) (by omega) (fun base hb=>fill3 hd hl hd2 hl2 hd3 hl3 hb) hp (by simp;omega)
end
end Go.Dm
namespace Go.Dm
open Go Go.RowKit Go.PP
variable [GlobW] [Rnd]
section
variable {P:Program} {N:Nat} {dst:Option Tmp} {ty:TypeId} {pos:String} {af:Array Edge} {gd:Option (Nat × Bool)}
theorem nk_ {w:World} (t xt ty e:TypeId) {z:Value} {size bytes:Nat} (ht:P.underlying t=some (.slice e)) (hinfo:(P.info? e).map (fun i=>(i.zero,i.size,i.bytes))=some (some z,size,bytes)) (hzs:z.cells.size=size) (hsz:0<size)
  (ad:Option Addr) (n:Nat) (cs:List Value) (hcs:cs.length=n*size) (hnil:ad=none→n=0) (hc:∀ a,ad=some a→ ∀ j u,cs[j]?=some u→w.cell? (a.add j)=some u) (x:Value) (m:Nat) (news:List Value) (hs:Src P w xt size m x news) (hl:news.length=m*size)
  (hm:0<m) (hby:(n+m)*bytes≤140737488355328) (hbp:0<bytes):
  ∃ cap,n+m≤cap∧cap≤maxLen∧(Builtin.append_ #[t,xt] ty #[.slice ad n n,x]).run P w= .ok (.slice (some ⟨w.heap.size,0,none⟩) (n+m) cap) (w.drew.alloc (.cells (cs.toArray++news.toArray++Builtin.zeroCells z.cells (cap - (n+m))) e)):=by
 obtain⟨i,hi,hz,hsize,hbytes⟩:=info_parts hinfo
 have hn:n+m≤140737488355328:=Nat.le_trans (Nat.le_mul_of_pos_right _ hbp) hby
 subst hsize;subst hbytes
 have hf1:=hs.fst w.drew rfl
 have hl0:=hs.len w
 have hfo:(Builtin.firstCells i.size n (.slice ad n n)).run P w.drew= .ok cs.toArray w.drew:=by
  cases ad with
  |none=>
   have h0:=hnil rfl
   subst h0
   have:cs=[]:=List.eq_nil_of_length_eq_zero (by simpa using hcs)
   subst this
   simp [Builtin.firstCells]
  |some a=>exact run_firstCells_some (P:=P) w.drew i.size n a n n cs hcs (fun j u hu=>by rw [World.cell?_of_block (w:=w) (by rfl)];exact hc a rfl j u hu)
 have hn':¬ (n+m≤n):=by omega
 have h63':¬ (9223372036854775807<((n:Int)+(m:Int))):=by omega
 have h48':¬ (281474976710656<Builtin.nextslicecap (n+m) n*i.bytes):=by have:=growslice_fits (old:=n) (need:=n+m) (by omega) hby;omega
 refine⟨grownCap w (n+m) n e,grownCap_ge w (n+m) n e,grownCap_le_maxLen w (n+m) n e (by unfold maxLen;omega),?_⟩
 rcases hs.ty with⟨e2,hty⟩|hty
 all_goals
  simp [Builtin.append_,ai_ ht,ai_ hty,sizeOf,typeInfo,zeroValue,hi,hz,hl0,hm,show ¬ m=0 by omega,h63',h48',Question.forced,hf1,hfo,newRow,grownCap]
  rw [if_neg hn']
  congr 3
  apply Array.ext'
  simp [List.append_assoc]
theorem T.appendSl {e n L m bytes:Nat} {z:Value} {f:Bool} {cs ds:List D} {dy:D} (t x y) (ht:P.underlying t=some (.slice e)) (hinfo:(P.info? e).map (fun i=>(i.zero,i.size,i.bytes))=some (some z,n,bytes)) (hzs:z.cells.size=n) (hsz:0<n) (hbp:0<bytes)
  (hle:Le dy (.sl f n m ds)) (hby:(L+m)*bytes≤140737488355328):
  Tri P N ⟨dst,.call { callee:= .builtin .append,args:= #[x,y],argTypes:= #[t,t] },ty,pos,af,gd⟩ [(x,.sl true n L cs),(y,dy)] [] (.sl false n (L+m) (cs++ds)) []:=Tri.run fun M w G ρ hM hv=>by
 have hvx:=hv.1
 have hvy:=hle _ _ _ _ hM hv.2.1
 simp only [Rep] at hvx hvy
 obtain⟨ax,cx,x1,x2,x3,x4,x5,x6⟩:=hvx
 obtain⟨ay,cy,y1,y2,y3,y4,y5,y6⟩:=hvy
 have hcx:=x3 trivial
 subst hcx
 obtain⟨us,u1,u2,u3⟩:∃ us:List Value,RepL M w none cs us∧(ax=none→cx=0)∧ ∀ a,ax=some a→ ∀ j u,us[j]?=some u→w.cell? (a.add j)=some u:=by
  rcases x6 with x6| ⟨b,off,rfl,x7,x8⟩
  ·have h0:cs=[]:=List.eq_nil_of_length_eq_zero (by rw [x4];exact x6)
   subst h0
   refine⟨[],by simp only [RepL],fun _=>?_,fun a _ j u h=>by simp at h⟩
   rcases Nat.mul_eq_zero.1 x6 with h|h
   ·exact h
   ·omega
  ·obtain⟨us,q1,q2⟩:=RepC.vals x8
   exact⟨us,q1,(fun h=>by cases h),fun a ha j u hj=>by cases ha;rw [ct_];exact q2 j u hj⟩
 obtain⟨news,n1,n2,n3⟩:∃ news:List Value,RepL M w none ds news∧(ay=none→news=[])∧ ∀ a,ay=some a→ ∀ j u,news[j]?=some u→w.cell? (a.add j)=some u:=by
  rcases y6 with r6| ⟨b,off,rfl,r7,r8⟩
  ·have hds:ds=[]:=List.eq_nil_of_length_eq_zero (by rw [y4];exact r6)
   subst hds
   exact⟨[],by simp only [RepL],fun _=>rfl,fun a _ j u h=>by simp at h⟩
  ·obtain⟨news,q1,q2⟩:=RepC.vals r8
   exact⟨news,q1,(fun h=>by cases h),fun a ha j u hj=>by cases ha;rw [ct_];exact q2 j u hj⟩
 have hln:news.length=m*n:=by rw [← n1.length];exact y4
 have hlu:us.length=cx*n:=by rw [← u1.length];exact x4
 have hsrc:Src P w t n m (.slice ay m cy) news:=Src.sl (c:=cy) ht hln n2 n3
 by_cases hm:m=0
 ·subst hm
  have hnn:news=[]:=List.eq_nil_of_length_eq_zero (by simpa using hln)
  have hdd:ds=[]:=List.eq_nil_of_length_eq_zero (by simpa using y4)
  subst hnn;subst hdd
  have hl0:=hsrc.len w
  have hf0:=hsrc.fst w rfl
  obtain⟨i,hi,hz,hsize,hbytes⟩:=info_parts hinfo
  subst hsize
  refine⟨.slice ax cx cx,w,lc_ x1 y1 ?_,Mut.refl _ w,?_⟩
  ·cases ax with
   |none=>simp [Builtin.append_,ai_ ht,sizeOf,typeInfo,hi,hl0,hf0]
   |some a=>simp [Builtin.append_,ai_ ht,sizeOf,typeInfo,hi,hl0,hf0,storeCells]
  ·simp only [Rep,List.append_nil,Nat.add_zero]
   exact⟨ax,cx,rfl,Nat.le_refl _,fun e=>(by cases e),x4,x5,x6⟩
 ·obtain⟨cap,hcap, -,hr⟩:=nk_ (P:=P) t t ty e ht hinfo hzs hsz ax cx us hlu u2 u3 _ m news hsrc hln (by omega) hby hbp
  have hn:cx+m≤140737488355328:=Nat.le_trans (Nat.le_mul_of_pos_right _ hbp) hby
  have hfx:Fix w (w.drew.alloc (.cells (us.toArray++news.toArray++Builtin.zeroCells z.cells (cap - (cx+m))) e)):=(Mut.refl _ w).drew.alloc _
  refine⟨_,_,lc_ x1 y1 hr,hfx,?_⟩
  simp only [Rep]
  refine⟨_,cap,rfl,hcap,fun e=>(by cases e),by rw [List.length_append,x4,y4,Nat.add_mul],by omega,.inr ⟨w.heap.size,0,rfl,fun h=>by have:=hM _ h;omega,RepC.of fun i d hd=>?_⟩⟩
  obtain⟨u,hu,hr'⟩:=((RepL.append u1 n1).fix hfx).get i hd
  refine⟨u,?_,hr'⟩
  have hi:=(List.getElem?_eq_some_iff.1 hu).1
  rw [Nat.zero_add]
  have hb:(w.drew.alloc (.cells (us.toArray++news.toArray++Builtin.zeroCells z.cells (cap - (cx+m))) e)).heap[w.heap.size]?=some (.cells (us.toArray++news.toArray++Builtin.zeroCells z.cells (cap - (cx+m))) e):=heap_alloc_new w.drew _
  simp only [World.cell?,hb]
  have hi2:i<(us.toArray++news.toArray).size:=by simpa using hi
  simp only [Option.isSome_none,Bool.false_eq_true,if_false]
  rw [Array.getElem?_append_left hi2]
  simpa using hu
end
end Go.Dm
namespace Go.Dm
open Go Go.RowKit Go.PP
variable [GlobW] [Rnd]
section
variable {P:Program} {N:Nat} {dst:Option Tmp} {ty:TypeId} {pos:String} {af:Array Edge} {gd:Option (Nat × Bool)}
end
end Go.Dm
namespace Go.Dm
open Go Go.RowKit Go.PP
variable [GlobW] [Rnd]
section
variable {P:Program} {N:Nat} {dst:Option Tmp} {ty:TypeId} {pos:String} {af:Array Edge} {gd:Option (Nat × Bool)}
end
end Go.Dm
namespace Go.Dm
open Go Go.RowKit Go.PP
variable [GlobW] [Rnd]
section
variable {P:Program} {N:Nat} {dst:Option Tmp} {ty:TypeId} {pos:String} {af:Array Edge} {gd:Option (Nat × Bool)}
end
class MpC (cs:List D) (id:outParam Nat) (en:outParam Ent):Prop where
 vl:∀ lp:Sg,fnd lp id=some (some en)→VlL lp cs cs
 vs:∀ σ σ':Sg,lkE σ id=some en→lkE σ' id=some en→VsL σ σ' cs cs
theorem MpC.vs' {cs:List D} {id:Nat} {en:Ent} [h:MpC cs id en] {σ σ':Sg} (k:lkE σ id=some en) (k':lkE σ' id=some en):VsL σ σ' cs cs:=h.vs σ σ' k k'
end Go.Dm
