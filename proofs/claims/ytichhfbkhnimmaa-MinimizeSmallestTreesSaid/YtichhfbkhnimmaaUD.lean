/- Lemmas on worlds: what a step leaves as it was; slices that read as lists; append on a row of the call own. No condition. -/
import Derived.WalkKit
import Derived.LoopTactic
import Derived.Outline
import Derived.Deep.QuietTactic
import Derived.BigQuiet
import Derived.Lib.Hide
import Derived.Deep.RegionHeld3
import Derived.Laws.EntriesVeiled
import Derived.WalkSpells
import Derived.WalkLawsBesides
set_option linter.unusedSimpArgs false
set_option linter.unusedVariables false
namespace Go.PP
open Go Go.RowKit
structure Mut (S:Nat→Prop) (w w':World):Prop where
 os:w'.os=w.os
 tape:w'.tape=w.tape
 output:w'.output=w.output
 size:w.heap.size≤w'.heap.size
 block:∀ k,k<w.heap.size→ ¬ S k→w'.heap[k]?=w.heap[k]?
theorem Mut.refl (S:Nat→Prop) (w:World):Mut S w w:=⟨rfl,rfl,rfl,Nat.le_refl _,fun _ _ _=>rfl⟩
theorem Mut.trans {S:Nat→Prop} {a b c:World} (h:Mut S a b) (k:Mut S b c):Mut S a c:=
 ⟨k.os.trans h.os,k.tape.trans h.tape,k.output.trans h.output,Nat.le_trans h.size k.size,
  fun i hi hs=>(k.block i (Nat.lt_of_lt_of_le hi h.size) hs).trans (h.block i hi hs)⟩
theorem Mut.trans' {S S':Nat→Prop} {a b c:World} (h:Mut S a b) (k:Mut S' b c) (hs:∀ i,i<a.heap.size→S' i→S i):Mut S a c:=
 ⟨k.os.trans h.os,k.tape.trans h.tape,k.output.trans h.output,Nat.le_trans h.size k.size,
  fun i hi hn=>(k.block i (Nat.lt_of_lt_of_le hi h.size) (fun h'=>hn (hs i hi h'))).trans (h.block i hi hn)⟩
theorem Mut.mono {S S':Nat→Prop} {a b:World} (h:Mut S a b) (hs:∀ i,i<a.heap.size→S i→S' i):Mut S' a b:=
 ⟨h.os,h.tape,h.output,h.size,fun i hi hn=>h.block i hi (fun h'=>hn (hs i hi h'))⟩
theorem Mut.drew {S:Nat→Prop} {a w:World} (h:Mut S a w):Mut S a w.drew:=⟨h.os,h.tape,h.output,h.size,h.block⟩
theorem Mut.alloc {S:Nat→Prop} {a w:World} (h:Mut S a w) (o:Obj):Mut S a (w.alloc o):=
 h.trans ⟨rfl,rfl,rfl,by simp,fun k hk _=>Below.heap_alloc _ _ _ hk⟩
theorem Mut.setCell {S:Nat→Prop} {a w:World} (h:Mut S a w) {p:Addr} (hp:p.block<a.heap.size→S p.block) (u:Value):Mut S a (w.setCell p u):=
 ⟨h.os,h.tape,h.output,by simpa [World.setCell] using h.size,fun k hk hn=>by
  by_cases e:k=p.block
  ·subst e;exact absurd (hp hk) hn
  ·rw [Below.heap_setCell _ _ _ _ e];exact h.block k hk hn⟩
theorem Mut.below {w w':World} (h:Mut (fun _=>False) w w'):Below w.heap.size w w':=⟨h.os,h.tape,h.output,h.size,fun k hk=>h.block k hk id⟩
theorem Mut.cell {S:Nat→Prop} {w w':World} (h:Mut S w w') {a:Addr} {v:Value} (hc:w.cell? a=some v) (hs:¬ S a.block):w'.cell? a=some v:=
 (World.cell?_of_block (h.block a.block (World.block_lt_of_cell? w a hc) hs)).trans hc
theorem Mut.heap {S:Nat→Prop} {w w':World} (h:Mut S w w') {k:Nat} {o:Obj} (hc:w.heap[k]?=some o) (hs:¬ S k):w'.heap[k]?=some o:=
 (h.block k (Array.getElem?_eq_some_iff.1 hc).1 hs).trans hc
theorem Mut.grown {S:Nat→Prop} {a w w':World} {row:Option Nat} (h:Mut S a w) (hg:w.grownBy w' row) (hr:∀ k,row=some k→k<a.heap.size→S k):Mut S a w':=
 h.trans' (S':=fun k=>row=some k) ⟨hg.os,hg.tape,hg.output,hg.size,fun k hk hn=>hg.block k hk (fun e=>hn e.symm)⟩ (fun i hi e=>hr i e hi)
theorem h6_ {w w':World} {S:Nat→Prop} {B:Nat} {e:TypeId} {sz:Nat} {v:Value} {n:Nat} {cs:List Value} (h:w.ownsRow B e sz v n cs) (m:Mut S w w') (hs:∀ k,v.ownBlock=some k→ ¬ S k):w'.ownsRow B e sz v n cs:=by
 refine⟨h.1,?_⟩
 rcases h.2 with hn| ⟨g,cap,cur,rfl,hb,hgg,rest⟩
 ·exact .inl hn
 ·exact .inr ⟨g,cap,cur,rfl,hb,m.heap hgg (hs g rfl),rest⟩
theorem i2_ (w:World) (u:Value) (e:TypeId):(w.alloc (.cells #[u] e)).cell? ⟨w.heap.size,0,none⟩=some u:=by
 have h:=heap_alloc_new w (.cells #[u] e)
 simp only [World.cell?]
 rw [h]
 rfl
def SliceIn (M:Nat→Prop) (w:World) (v:Value) (cs:List Value):Prop:=
 ∃  a c,v= .slice a cs.length c∧cs.length≤9223372036854775807∧
    ∀ i,i<cs.length→ ∃ b off u,a=some ⟨b,off,none⟩∧ ¬ M b∧cs[i]?=some u∧w.cell? ⟨b,off+i,none⟩=some u
theorem SliceIn.mut {M S:Nat→Prop} {w w':World} {v:Value} {cs:List Value} (h:SliceIn M w v cs) (m:Mut S w w') (hs:∀ b,b<w.heap.size→S b→M b):SliceIn M w' v cs:=by
 obtain⟨a,c,h1,h2,h3⟩:=h
 refine⟨a,c,h1,h2,fun i hi=>?_⟩
 obtain⟨b,off,u,q1,q2,q3,q4⟩:=h3 i hi
 exact⟨b,off,u,q1,q2,q3,m.cell q4 (fun hb=>q2 (hs _ (World.block_lt_of_cell? w _ q4) hb))⟩
theorem SliceIn.mono {M M':Nat→Prop} {w:World} {v:Value} {cs:List Value} (h:SliceIn M w v cs) (hM:∀ b,b<w.heap.size→M' b→M b):SliceIn M' w v cs:=by
 obtain⟨a,c,h1,h2,h3⟩:=h
 refine⟨a,c,h1,h2,fun i hi=>?_⟩
 obtain⟨b,off,u,q1,q2,q3,q4⟩:=h3 i hi
 exact⟨b,off,u,q1,fun hb=>q2 (hM b (World.block_lt_of_cell? w _ q4) hb),q3,q4⟩
theorem SliceIn.nil (M:Nat→Prop) (w:World):SliceIn M w (.slice none 0 0) []:=⟨none,0,rfl,by simp,fun i hi=>absurd hi (by simp)⟩
theorem SliceIn.len {M:Nat→Prop} {w:World} {v:Value} {cs:List Value} (h:SliceIn M w v cs):cs.length≤9223372036854775807:=by
 obtain⟨_,_,_,h,_⟩:=h;exact h
def Ints (M:Nat→Prop) (w:World) (v:Value) (xs:List Int):Prop:=SliceIn M w v (xs.map (Value.int .i64))
theorem Ints.open {M:Nat→Prop} {w:World} {v:Value} {xs:List Int} (h:Ints M w v xs):∃ a c,v= .slice a xs.length c∧xs.length≤9223372036854775807∧
  ∀ i,i<xs.length→ ∃ b off x,a=some ⟨b,off,none⟩∧ ¬ M b∧xs[i]?=some x∧w.cell? ⟨b,off+i,none⟩=some (.int .i64 x):=by
 obtain⟨a,c,h1,h2,h3⟩:=h
 refine⟨a,c,by simpa using h1,by simpa using h2,fun i hi=>?_⟩
 obtain⟨b,off,u,q1,q2,q3,q4⟩:=h3 i (by simpa using hi)
 rw [List.getElem?_map] at q3
 obtain⟨x,hx,rfl⟩:=Option.map_eq_some_iff.1 q3
 exact⟨b,off,x,q1,q2,hx,q4⟩
section
variable {P:Program} {ops:Array Oper} {rest:List Oper} {o:Oper} {a:Act} {Q:Exit→Act→World→Prop} {w:World}
theorem uz_ (t ty e:TypeId) {B:Nat} {z:Value} {bytes:Nat} (ht:P.underlying t=some (.slice e)) (hinfo:(P.info? e).map (fun i=>(i.zero,i.size,i.bytes))=some (some z,1,bytes)) (hzs:z.cells.size=1)
  (v:Value) (cs:List Value) (u:Value) (hown:w.ownsRow B e 1 v cs.length cs) (blk:Nat)
  (hu:w.cell? ⟨blk,0,none⟩=some u) (h1:u.oneCell'=true) (hlen:cs.length<1099511627776) (hby:bytes≤64) (hB:B≤w.heap.size):
  ∃ v' w',(Builtin.append_ #[t,t] ty #[v,.slice (some ⟨blk,0,none⟩) 1 1]).run P w= .ok v' w'∧w'.ownsRow B e 1 v' (cs++ [u]).length (cs++ [u])∧w.grownBy w' v.ownBlock∧
    (∀ k,v'.ownBlock=some k→v.ownBlock=some k∨k=w.heap.size)∧(∃ g c,v'= .slice (some ⟨g,0,none⟩) (cs.length+1) c):=by
 obtain⟨i,hi,hz,hsize,hbytes⟩:=info_parts hinfo
 have hnews:∀ j u',[u][j]?=some u'→w.cell? ((⟨blk,0,none⟩:Addr).add j)=some u':=by
  intro j u' hj
  cases j with
  |zero=>simp at hj;subst hj;simpa [Addr.add] using hu
  |succ j=>simp at hj
 have h1':∀ u'∈[u],u'.oneCell'=true:=by simpa using h1
 have hb:(cs.length+1)*bytes≤(cs.length+1)*64:=Nat.mul_le_mul_left _ hby
 have hb2:(cs.length+1)*bytes≤140737488355328:=by omega
 obtain⟨v',w',hr,h2,h3,_⟩:=run_append_own (P:=P) w B t ty e i z 1 bytes ht hi hz hsize hbytes hzs (by decide) v cs.length cs hown ⟨blk,0,none⟩ 1 1 [u] rfl hnews h1' (by unfold maxLen;omega) hb2 hB
 refine⟨v',w',hr,by simpa using h2,h3,?_⟩
 rcases hown.2 with⟨rfl,hl⟩| ⟨g,cap,cur,rfl,hbg,hg,hnc,hcm,hcs,htake⟩
 ·have hr2:=run_append_nil (P:=P) w t ty e i z ht hi hz ⟨blk,0,none⟩ 1 1 [u] (by simp [hsize]) hnews (by omega) (by omega) (by rw [hbytes];omega)
  rw [hr2] at hr
  simp only [Result.ok.injEq] at hr
  refine⟨fun k hk=>?_,w.heap.size,grownCap w 1 0 e,?_⟩
  ·rw [← hr.1] at hk;simp [Value.ownBlock] at hk;exact .inr hk.symm
  ·rw [← hr.1,hl]
 ·by_cases hroom:cs.length+1≤cap
  · have hr2:=run_append_room (P:=P) w t ty e i ht hi g cs.length cap cur hg ⟨blk,0,none⟩ 1 1 [u] (by simp [hsize]) hnews h1' hroom (by rw [hsize,hcs];simp;omega)
    rw [hr2] at hr
    simp only [Result.ok.injEq] at hr
    refine⟨fun k hk=>?_,g,cap,hr.1.symm⟩
    rw [← hr.1] at hk;simp [Value.ownBlock] at hk;exact .inl (by simp [Value.ownBlock,hk])
  · have holds:∀ j u',cs[j]?=some u'→w.cell? ((⟨g,0,none⟩:Addr).add j)=some u':=hown.cells (g:=g) rfl
    have hr2:=run_append_grow (P:=P) w t ty e i z ht hi hz ⟨g,0,none⟩ cs.length cap cs (by simp [hsize]) holds ⟨blk,0,none⟩ 1 1 [u] (by simp [hsize]) hnews (by omega) (by omega) (growslice_fits (by omega) (by rw [hbytes];exact hb2))
    rw [hr2] at hr
    simp only [Result.ok.injEq] at hr
    refine⟨fun k hk=>?_,w.heap.size,_,hr.1.symm⟩
    rw [← hr.1] at hk;simp [Value.ownBlock] at hk;exact .inr hk.symm
theorem f6_ (hgd:o.guard=none) (s x:Operand) (t:TypeId)
  (ho:o.op= .call { callee:= .builtin .append,args:= #[s,x],argTypes:= #[t,t] })
  {B:Nat} {e:TypeId} {z:Value} {bytes:Nat} (ht:P.underlying t=some (.slice e)) (hinfo:(P.info? e).map (fun i=>(i.zero,i.size,i.bytes))=some (some z,1,bytes)) (hzs:z.cells.size=1)
  (v:Value) (cs:List Value) (u:Value) (hs:a.eval s=v) (hown:w.ownsRow B e 1 v cs.length cs) (blk:Nat) (hx:a.eval x= .slice (some ⟨blk,0,none⟩) 1 1)
  (hu:w.cell? ⟨blk,0,none⟩=some u) (h1:u.oneCell'=true) (hlen:cs.length<1099511627776) (hby:bytes≤64) (hB:B≤w.heap.size)
  (h:∀ v' w',w'.ownsRow B e 1 v' (cs++ [u]).length (cs++ [u])→w.grownBy w' v.ownBlock→(∀ k,v'.ownBlock=some k→v.ownBlock=some k∨k=w.heap.size)→wpList P ops Q rest (a.put o.dst v') w'):wpList P ops Q (o::rest) a w:=by
 obtain⟨v',w',hr,h2,h3,h4,_⟩:=uz_ (P:=P) t o.type e ht hinfo hzs v cs u hown blk hu h1 hlen hby hB
 refine wpList_plain hgd fun K hK=>?_
 unfold Oper.wp execOp
 simp only [ho,resolve,invoke,builtin,Sem.run_bind,Sem.run_pure,Result.andThen_ok,List.map_toArray,List.map_cons,List.map_nil,hs,hx,hr]
 exact hK _ _ (h v' w' h2 h3 h4)
end
structure IntsL (M:Nat→Prop) (w:World) (v:Value) (xss:List (List Int)):Prop where
 ex:∃ vs,SliceIn M w v vs∧vs.length=xss.length∧ ∀ (i:Nat) v' xs,vs[i]?=some v'→xss[i]?=some xs→Ints M w v' xs
theorem IntsL.mut {M S:Nat→Prop} {w w':World} {v:Value} {xss:List (List Int)} (h:IntsL M w v xss) (m:Mut S w w') (hs:∀ b,b<w.heap.size→S b→M b):IntsL M w' v xss:=by
 obtain⟨vs,h1,h2,h3⟩:=h
 exact⟨vs,h1.mut m hs,h2,fun i v' xs q1 q2=>(h3 i v' xs q1 q2).mut m hs⟩
theorem Ints.mut {M S:Nat→Prop} {w w':World} {v:Value} {xs:List Int} (h:Ints M w v xs) (m:Mut S w w') (hs:∀ b,b<w.heap.size→S b→M b):Ints M w' v xs:=SliceIn.mut h m hs
theorem Ints.mono {M M':Nat→Prop} {w:World} {v:Value} {xs:List Int} (h:Ints M w v xs) (hM:∀ b,b<w.heap.size→M' b→M b):Ints M' w v xs:=SliceIn.mono h hM
theorem IntsL.open {M:Nat→Prop} {w:World} {v:Value} {xss:List (List Int)} (h:IntsL M w v xss):∃ a c,v= .slice a xss.length c∧xss.length≤9223372036854775807∧
  ∀ i,i<xss.length→ ∃ b off v' xs,a=some ⟨b,off,none⟩∧ ¬ M b∧xss[i]?=some xs∧w.cell? ⟨b,off+i,none⟩=some v'∧Ints M w v' xs:=by
 obtain⟨vs,⟨a,c,h1,h2,h3⟩,h4,h5⟩:=h
 rw [h4] at h1 h2
 refine⟨a,c,h1,h2,fun i hi=>?_⟩
 obtain⟨b,off,u,q1,q2,q3,q4⟩:=h3 i (by omega)
 exact⟨b,off,u,xss[i],q1,q2,by simp [hi],q4,h5 i u _ q3 (by simp [hi])⟩
end Go.PP
namespace Go.PP
open Go
section
variable {P:Program} {ops:Array Oper} {md:Region.Mode} {Q:Exit→Act→World→Prop} {C:World→Prop}
theorem hu_ {listed:Array Bool} {i:Nat} (h:listed.getD i true=false):listed.getD i false=false:=by
 rcases Nat.lt_or_ge i listed.size with h'|h'
 ·simp [h'] at h ⊢;exact h
 ·simp [Array.getElem?_eq_none h'] at h
theorem b3_ (m j:Nat):(Array.replicate m false).getD j false=false:=by
 simp [Array.getElem?_replicate];split <;> rfl
def DownClosed (md:Region.Mode) (ops:Array Oper) (listed:Array Bool):Prop:=
 ∀ k ok,listed.getD k false=true→ops[k]?=some ok→ ∀ e∈ok.after,Region.binds md e=true→listed.getD e.on false=true
theorem DownClosed.none (md:Region.Mode) (ops:Array Oper) (n:Nat):DownClosed md ops (Array.replicate n false):=by
 intro k ok h
 rw [b3_] at h;cases h
theorem DownClosed.set {listed:Array Bool} (h:DownClosed md ops listed) {j:Nat} (hj:j∈Region.ready md ops listed):DownClosed md ops (listed.setIfInBounds j true):=by
 obtain⟨_,oj,hoj,hall⟩:=mem_ready.1 hj
 intro k ok hk hok e he hb
 by_cases hkj:j=k
 ·subst hkj
  rw [hoj] at hok;cases hok
  exact getD_set_true (hall e he hb)
 ·rw [getD_set_ne _ hkj] at hk
  exact getD_set_true (h k ok hk hok e he hb)
def waitsT (md:Region.Mode) (ops:Array Oper):Nat→Nat→Nat→Bool
 |0,_,_=>false
 |  fuel+1,j,i=>match ops[j]? with
    |some oj=>oj.after.any fun e=>Region.binds md e && (e.on == i || waitsT md ops fuel e.on i)
    |none=>false
theorem df_ {listed:Array Bool} (inv:DownClosed md ops listed):∀ (fuel j i:Nat),
  (∀ oj,ops[j]?=some oj→ ∀ e∈oj.after,Region.binds md e=true→listed.getD e.on false=true)→waitsT md ops fuel j i=true→listed.getD i false=true
 |0,_,_,_,h=>by simp [waitsT] at h
 |fuel+1,j,i,hall,h=>by
  unfold waitsT at h
  cases hj:ops[j]? with
  |none=>rw [hj] at h;cases h
  |some oj=>
   rw [hj] at h
   simp only [Array.any_eq_true,Bool.and_eq_true,Bool.or_eq_true,beq_iff_eq] at h
   obtain⟨n,hn,hb,h⟩:=h
   have he:=hall oj hj _ (Array.getElem_mem hn) hb
   rcases h with h|h
   ·rw [← h];exact he
   ·exact df_ inv fuel _ i (fun ok hok e' he' hb'=>inv _ ok he hok e' he' hb') h
def Waits (md:Region.Mode) (ops:Array Oper) (j i:Nat):Prop:= ∃ f,waitsT md ops f j i=true
theorem Waits.of_edge {j i:Nat} {oj:Oper} {e:Edge} (hj:ops[j]?=some oj) (he:e∈oj.after) (hb:Region.binds md e=true) (h:e.on=i∨Waits md ops e.on i):Waits md ops j i:=by
 have key:∀ f,(e.on=i∨waitsT md ops f e.on i=true)→waitsT md ops (f+1) j i=true:=fun f h=>by
  obtain⟨n,hn,hen⟩:=Array.mem_iff_getElem.1 he
  unfold waitsT
  rw [hj]
  simp only [Array.any_eq_true,Bool.and_eq_true,Bool.or_eq_true,beq_iff_eq]
  exact⟨n,hn,by rw [hen];exact⟨hb,h⟩⟩
 rcases h with h| ⟨f,hf⟩
 ·exact⟨1,key 0 (.inl h)⟩
 ·exact⟨f+1,key f (.inr hf)⟩
def maskOf (md:Region.Mode) (acc:List Nat) (es:List Edge):Nat:=
 es.foldl (fun m e=>if Region.binds md e then (m ||| (1 <<< e.on)) ||| acc.getD e.on 0 else m) 0
def masks (md:Region.Mode):List Oper→List Nat→List Nat
 | [],acc=>acc
 |o::l,acc=>masks md l (acc++ [maskOf md acc o.after.toList])
theorem h5_ (acc:List Nat) (i:Nat):∀ (es:List Edge) (m:Nat),Nat.testBit (es.foldl (fun m e=>if Region.binds md e then (m ||| (1 <<< e.on)) ||| acc.getD e.on 0 else m) m) i=true→
    Nat.testBit m i=true∨ ∃ e∈es,Region.binds md e=true∧(e.on=i∨Nat.testBit (acc.getD e.on 0) i=true)
  | [],_,h=> .inl h
  | e :: es,m,h=>by
    rcases h5_ acc i es _ h with h| ⟨e',he',hb,h⟩
    · simp only [] at h
      split at h
      · rename_i hb
        simp only [Nat.testBit_or,Bool.or_eq_true] at h
        rcases h with (h|h)|h
        ·exact .inl h
        · refine .inr ⟨e,by simp,hb,.inl ?_⟩
          rw [Nat.one_shiftLeft] at h
          simpa [Nat.testBit_two_pow] using h
        ·exact .inr ⟨e,by simp,hb,.inr h⟩
      ·exact .inl h
    ·exact .inr ⟨e',by simp [he'],hb,h⟩
theorem gw_:∀ (l:List Oper) (acc:List Nat),(∀ k,l[k]?=ops[acc.length+k]?)→(∀ j i,Nat.testBit (acc.getD j 0) i=true→Waits md ops j i)→
  ∀ j i,Nat.testBit ((masks md l acc).getD j 0) i=true→Waits md ops j i
 | [],_,_,hacc=>hacc
 |o::l,acc,hl,hacc=>by
  refine gw_ l _ (fun k=>by have:=hl (k+1);simp only [List.getElem?_cons_succ] at this;rw [this,List.length_append];congr 1;simp;omega) (fun j i h=>?_)
  rcases Nat.lt_trichotomy j acc.length with hj|hj|hj
  ·rw [List.getD_eq_getElem?_getD,List.getElem?_append_left hj,← List.getD_eq_getElem?_getD] at h
   exact hacc j i h
  ·subst hj
   rw [List.getD_eq_getElem?_getD,List.getElem?_append_right (Nat.le_refl _)] at h
   simp only [Nat.sub_self,List.getElem?_cons_zero,Option.getD_some] at h
   rcases h5_ acc i _ 0 h with h| ⟨e,he,hb,h⟩
   ·simp at h
   ·exact .of_edge (oj:=o) (by have:=hl 0;simpa using this.symm) (Array.mem_toList_iff.1 he) hb (h.imp id (hacc _ _))
  ·rw [List.getD_eq_getElem?_getD,List.getElem?_eq_none (by simp;omega)] at h
   simp at h
theorem k1_ {listed:Array Bool} {i:Nat} (h:listed.getD i true=false):listed.getD i false=false:=hu_ h
theorem f9_ {listed:Array Bool} (inv:DownClosed md ops listed) {j i:Nat} (hw:Waits md ops j i) (hi:listed.getD i true=false):j ∉ Region.ready md ops listed:=by
 intro hj
 obtain⟨fuel,hw⟩:=hw
 obtain⟨_,oj,hoj,hall⟩:=mem_ready.1 hj
 have:=df_ inv fuel j i (fun ok hok e he hb=>by rw [hoj] at hok;cases hok;exact hall e he hb) hw
 rw [hu_ hi] at this;cases this
theorem YieldsIf.quiet {S:World→Prop} {o:Oper} {v:Value} {a:Act} (hq:(Region.wanted o (yielded ops a.tmps)=true∧ ∀ w,S w→o.quietAt P a S w v)∨(Region.wanted o (yielded ops a.tmps)=false∧v=undef))
  (hne:∀ (ρ:Operand→Value) (w w':World) f args,(execOp ρ o).run P w≠ .ok (.enter f args) w') (hns:∀ (ρ:Operand→Value) (w w':World),(execOp ρ o).run P w≠ .ok .skip w'):YieldsIf P ops S o v a:=by
 rcases hq with⟨hw,h⟩|h
 ·refine .inl ⟨hw,fun w hS=>?_⟩
  have:=h w hS
  unfold Oper.quietAt at this
  cases hr:(execOp a.eval o).run P w with
  |ok n w'=>
   rw [hr] at this
   cases n <;> simp only [Oper.quietUpon] at this
   case value u=>rw [this.1,this.2]
   case skip=>exact absurd hr (hns _ _ _)
   case enter f args=>exact absurd hr (hne _ _ _ _ _)
  |halt x w'=>rw [hr] at this;simp only [Oper.quietUpon] at this
 ·exact .inr h
def Op.plain:Op→Bool
 | .move _| .assign _| .pick .. | .load .. | .nilCheck _| .binOp .. | .unOp .. | .convert .. | .fieldAddr .. | .field .. | .indexAddr .. | .index .. | .lookup .. | .extract .. =>true
 | .call { callee:= .builtin .len, .. }=>true
 |_=>false
theorem l2_ {s:Sem Value} {w w':World} {n:Next} (h:(do let x ← s;pure (Next.value x):Sem Next).run P w= .ok n w'):∃ u,n= .value u:=by
 rw [Sem.run_bind] at h
 cases hs:s.run P w with
 |ok x w1=>rw [hs] at h;simp only [Result.andThen_ok,Sem.run_pure,Result.ok.injEq] at h;exact⟨x,h.1.symm⟩
 |halt x w1=>rw [hs] at h;simp [Result.andThen] at h
theorem qs_ {α:Type} {s:Sem α} {f:α→Value} {w w':World} {n:Next} (h:(do let x ← s;pure (Next.value (f x)):Sem Next).run P w= .ok n w'):∃ u,n= .value u:=by
 rw [Sem.run_bind] at h
 cases hs:s.run P w with
 |ok x w1=>rw [hs] at h;simp only [Result.andThen_ok,Sem.run_pure,Result.ok.injEq] at h;exact⟨f x,h.1.symm⟩
 |halt x w1=>rw [hs] at h;simp [Result.andThen] at h
theorem Op.plain_value {o:Oper} (ho:Op.plain o.op=true) {ρ:Operand→Value} {w w':World} {n:Next} (h:(execOp ρ o).run P w= .ok n w'):∃ u,n= .value u:=by
 obtain⟨dst,op,type,pos,after,guard⟩:=o
 cases op <;> first|(simp [Op.plain] at ho;done)|skip
 case call c=>
  obtain⟨callee,args,ts⟩:=c
  cases callee with
  |value f=>simp [Op.plain] at ho
  |invoke r m=>simp [Op.plain] at ho
  |builtin b=>
   cases b <;> first|(simp [Op.plain] at ho;done)|skip
   simp only [execOp,resolve,invoke,Sem.run_bind,Sem.run_pure,Result.andThen_ok,builtin] at h
   exact l2_ (by rw [Sem.run_bind];exact h)
 case nilCheck x=>
  simp only [execOp] at h
  split at h
  ·simp [runtimePanic,goPanic] at h
  ·simp [runtimePanic,goPanic] at h
  ·simp [runtimePanic,goPanic] at h
  ·split  at h
   ·simp [runtimePanic,goPanic] at h
   ·    rename_i t w0 _
        simp only [Sem.run_bind,run_program,Result.andThen_ok] at h
        generalize Sem.run P (nilAhead _ _ _ _) w=r at h
        cases r with
        |halt x w1=>simp [Result.andThen] at h
        |ok x w1=>
         simp only [Result.andThen_ok] at h
         by_cases hx:x=some false
         ·simp [hx] at h;exact⟨_,h.1.symm⟩
         ·simp [hx,unsupported] at h
   ·simp at h;exact⟨_,h.1.symm⟩
  ·simp at h;exact⟨_,h.1.symm⟩
 case move x=>simp [execOp] at h;exact⟨_,h.1.symm⟩
 case assign x=>simp [execOp] at h;exact⟨_,h.1.symm⟩
 case pick c a b=>simp only [execOp] at h;exact qs_ h
 all_goals (simp only [execOp] at h;exact l2_ h)
def wpAnyK (P:Program) (md:Region.Mode) (ops:Array Oper) (Q:Exit→Act→World→Prop) (C:World→Prop) (kp:Nat→Bool):Nat→Array Bool→Act→World→Prop
 |0,listed,a,w=>Region.ready md ops listed=[]∧Q .normal a w
 |  fuel+1,listed,a,w=>
    (Region.ready md ops listed=[]→Q .normal a w)∧
    ∀ i∈Region.ready md ops listed,wpOp P ops Q i (fun a' w'=>(kp i=true→C w')∧wpAnyK P md ops Q C kp fuel (listed.setIfInBounds i true) a' w') a w
theorem jw_ {kp:Nat→Bool}:∀ (fuel:Nat) (listed:Array Bool) (a:Act) (w:World),wpAnyK P md ops Q C kp fuel listed a w→wpAny P md ops Q fuel listed a w
 |0,_,_,_,h=>h
 |fuel+1,_,_,_,h=>⟨h.1,fun i hi=>wpOp_mono (fun a' w' h'=>jw_ fuel _ a' w' h'.2) (h.2 i hi)⟩
theorem mj_ {kp:Nat→Bool} {i:Nat} {oi:Oper} {v:Value} (hi:ops[i]?=some oi) (hsel:∀ (j:Nat) (o:Oper) cs b,ops[j]?=some o→o.op≠ .select cs b)
    (hQ:∀ c a w,Q (.panic c) (a.put oi.dst v) w→Q (.panic c) a w)
    (hk:∀ j oj,ops[j]?=some oj→kp j=false→Waits md ops j i):
    ∀ (fuel:Nat) (listed:Array Bool) (a:Act) (w:World),DownClosed md ops listed→
      (∀ j oj,ops[j]?=some oj→j≠i→listed.getD j true=false→(∀ e∈oj.after,Region.binds md e=true→e.on≠i)→oi.apart ops oj=true)→
      i∈Region.ready md ops listed→YieldsIf P ops C oi v a→C w→
      wpAnyK P md ops Q C kp fuel (listed.setIfInBounds i true) (a.put oi.dst v) w→wpAnyK P md ops Q C kp (fuel+1) listed a w:=by
  intro fuel
  induction fuel with
  | zero=>
    intro listed a w _ _ hr hy hS H
    refine⟨fun h=>(by rw [h] at hr;cases hr),fun j hj=>?_⟩
    by_cases hji:j=i
    ·subst hji;exact hy.wpOp hi hS ⟨fun _=>hS,H⟩
    · have:=ready_mono hj hji
      rw [H.1] at this
      cases this
  | succ fuel ih=>
    intro listed a w inv hfree hr hy hS H
    refine⟨fun h=>(by rw [h] at hr;cases hr),fun j hj=>?_⟩
    by_cases hji:j=i
    ·subst hji;exact hy.wpOp hi hS ⟨fun _=>hS,H⟩
    · have h1:=H.2 j (ready_mono hj hji)
      have hkj:kp j=true:=by
        cases hkj:kp j with
        |true=>rfl
        | false=>
          obtain⟨_,oj,hoj,_⟩:=mem_ready.1 hj
          exact absurd hj (f9_ inv (hk j oj hoj hkj) (mem_ready.1 hr).1)
      obtain⟨hjun,oj,hoj,hall⟩:=mem_ready.1 hj
      have hnot:∀ e∈oj.after,Region.binds md e=true→e.on≠i:=fun e he hb heq=>by
        have h1:=hall e he hb
        have h0:=(mem_ready.1 hr).1
        rw [heq,hu_ h0] at h1
        cases h1
      have h2:=wpOp_putIf hoj (hfree j oj hoj hji hjun hnot) (fun cs b=>hsel i oi cs b hi) (fun cs b=>hsel j oj cs b hoj) hQ hy h1
      have hfree':∀ k ok,ops[k]?=some ok→k≠i→(listed.setIfInBounds j true).getD k true=false→
          (∀ e∈ok.after,Region.binds md e=true→e.on≠i)→oi.apart ops ok=true:=fun k ok hk hki hun hno=>by
        refine hfree k ok hk hki ?_ hno
        by_cases hjk:j=k
        ·subst hjk;exact hjun
        ·rw [getD_set_ne true hjk] at hun;exact hun
      refine wpOp_mono (fun a' w' h3=>⟨fun _=>h3.2.1 hkj,ih (listed.setIfInBounds j true) a' w' (inv.set hj) hfree' (ready_mono hr (Ne.symm hji)) h3.1 (h3.2.1 hkj) ?_⟩) h2
      rw [Array.setIfInBounds_comm _ _ hji]
      exact h3.2.2
def planOk (md:Region.Mode) (ops:Array Oper) (kp:List Nat) (ms:List Nat) (T:List Nat):List (List Nat × Option Nat)→Array Bool→Bool
 | [],listed=>seqOk T listed
 |  (A,b)::rest,listed=>
    takesOk A listed && (match b with
     |none=>planOk md ops kp ms T rest (A.foldl (fun l i=>l.setIfInBounds i true) listed)
     |some b=>(Region.ready md ops (A.foldl (fun l i=>l.setIfInBounds i true) listed) ==[b]) && planOk md ops kp ms T rest ((A.foldl (fun l i=>l.setIfInBounds i true) listed).setIfInBounds b true))
where
 seqOk:List Nat→Array Bool→Bool
 | [],listed=>(Region.ready md ops listed).isEmpty
 |t::ts,listed=>(Region.ready md ops listed ==[t]) && !kp.contains t && seqOk ts (listed.setIfInBounds t true)
 takesOk:List Nat→Array Bool→Bool
 | [],_=>true
 |i::is,listed=>(Region.ready md ops listed).contains i && Region.free md ops listed i && ((ops[i]?).map fun o=>Op.plain o.op).getD false &&
   ((List.range ops.size).all fun j=>kp.contains j || Nat.testBit (ms.getD j 0) i) && takesOk is (listed.setIfInBounds i true)
def pickOps:List Oper→List Nat→List Oper
 |_,[]=> []
 |l,i::is=>pickOp (l[i]?) (pickOps l is)
where pickOp:Option Oper→List Oper→List Oper
 |some o,r=>o::r
 |none,r=>r
theorem fz_ (l:List Oper):pickOps l []=[]:=rfl
theorem c9_ (l:List Oper) (i:Nat) (is:List Nat):pickOps l (i::is)=pickOps.pickOp (l[i]?) (pickOps l is):=rfl
theorem dr_ (o:Oper) (r:List Oper):pickOps.pickOp (some o) r=o::r:=rfl
def wpPlan (P:Program) (ops:Array Oper) (Q:Exit→Act→World→Prop) (C:World→Prop) (kp T:List Nat):List (List Nat × Option Nat)→Act→World→Prop
 | [],a,w=>wpList P ops Q (pickOps ops.toList T) a w
 |(A, b)::rest,a,w=>C w∧wpQuiet P ops C (fun a'=>match b with
     |none=>wpPlan P ops Q C kp T rest a' w
     |some b=>wpList P ops (Exit.then (fun a2 w2=>(kp.contains b=true→C w2)∧wpPlan P ops Q C kp T rest a2 w2) Q) (pickOps ops.toList [b]) a' w) (pickOps ops.toList A) a
theorem nx_ {kp:Nat→Bool} {listed:Array Bool} {a:Act} {w:World} (hr:Region.ready md ops listed=[]) (h:Q .normal a w):
  ∀ fuel,wpAnyK P md ops Q C kp fuel listed a w
 |0=>⟨hr,h⟩
 |_+1=>⟨fun _=>h,by rw [hr];simp⟩
theorem m5_ {b:Nat} {o:Oper} {K:Act→World→Prop} {a:Act} {w:World} (ho:ops[b]?=some o) (h:wpList P ops (Exit.then K Q) [o] a w):wpOp P ops Q b K a w:=by
 unfold wpOp
 simp only [ho]
 unfold wpList at h
 split
 ·rename_i hw
  rw [if_pos hw] at h
  rcases h with h|h
  ·refine .inl ?_
   unfold Oper.wp at*
   generalize (execOp a.eval o).run P w=r at*
   cases r with
   |ok n w'=>cases n <;> exact h
   |halt x w'=>cases x <;> exact h
  ·exact .inr h
 ·rename_i hw
  rw [if_neg hw] at h
  exact h
theorem mp_ {o:Oper} {a:Act} {K:Act→Prop} {rest:List Oper} (hp:Op.plain o.op=true) (h:wpQuiet P ops C K (o::rest) a):
  ∃ v,YieldsIf P ops C o v a∧wpQuiet P ops C K rest (a.put o.dst v):=by
 unfold wpQuiet at h
 by_cases hw:Region.wanted o (yielded ops a.tmps)=true
 ·rw [if_pos hw] at h
  obtain⟨v,h1,h2⟩:=h
  exact⟨v,YieldsIf.quiet (.inl ⟨hw,h1⟩) (fun ρ w w' f args hr=>by obtain⟨u,hu⟩:=Op.plain_value hp hr;cases hu)
   (fun ρ w w' hr=>by obtain⟨u,hu⟩:=Op.plain_value hp hr;cases hu),h2⟩
 ·rw [if_neg hw] at h
  exact⟨undef,.inr ⟨by simpa using hw,rfl⟩,h⟩
theorem hb_ {kp ms:List Nat} (hms:∀ j i,Nat.testBit (ms.getD j 0) i=true→Waits md ops j i) {w:World} {K:Act→Prop} (hsel:Region.noSelect ops=true) (hQ:∀ c a a' w,Q (.panic c) a' w→Q (.panic c) a w) (hC:C w):∀ (A:List Nat) (listed:Array Bool) (fuel:Nat) (a:Act),
  DownClosed md ops listed→planOk.takesOk md ops kp ms A listed=true→wpQuiet P ops C K (pickOps ops.toList A) a→
  (∀ a',DownClosed md ops (A.foldl (fun l i=>l.setIfInBounds i true) listed)→K a'→wpAnyK P md ops Q C kp.contains fuel (A.foldl (fun l i=>l.setIfInBounds i true) listed) a' w)→wpAnyK P md ops Q C kp.contains (fuel+A.length) listed a w
 | [],listed,fuel,a,inv,_,h,hK=>hK a inv h
 |i::    is,listed,fuel,a,inv,ht,h,hK=>by
  simp only [planOk.takesOk,Bool.and_eq_true] at ht
  obtain⟨⟨⟨⟨hr,hf⟩,hp⟩,hw⟩,ht⟩:=ht
  cases ho:ops[i]? with
  |none=>rw [ho] at hp;simp at hp
  |some  o=>
   rw [ho] at hp
   simp only [Option.map_some,Option.getD_some] at hp
   simp only [c9_,Array.getElem?_toList,ho,dr_] at h
   obtain⟨v,hy,h2⟩:=mp_ hp h
   have hri:i∈Region.ready md ops listed:=by simpa using hr
   refine mj_ ho (Region.noSelect_spec hsel) (fun c a w=>hQ c a _ w) (fun j oj hoj hj=>?_) (fuel+is.length) listed a w inv (Region.free_spec ho hf) hri hy hC
        (hb_ hms hsel hQ hC is _ fuel _ (inv.set hri) ht h2 hK)
   have hw':=List.all_eq_true.1 hw
   have:=hw' j (by simpa using (Array.getElem?_eq_some_iff.1 hoj).1)
   rw [hj,Bool.false_or] at this
   exact hms j i this
theorem jx_ {kp:List Nat}:∀ (T:List Nat) (listed:Array Bool) (fuel:Nat) (a:Act) (w:World),planOk.seqOk md ops kp T listed=true→T.length≤fuel→
  wpList P ops Q (pickOps ops.toList T) a w→wpAnyK P md ops Q C kp.contains fuel listed a w
 | [],listed,fuel,a,w,hok,_,h=>nx_ (by simpa [planOk.seqOk] using hok) h fuel
 |t::ts,listed,fuel,a,w,hok,hf,h=>by
  simp only [planOk.seqOk,Bool.and_eq_true,beq_iff_eq,Bool.not_eq_true'] at hok
  obtain⟨⟨hr,hk⟩,hok⟩:=hok
  simp only [List.length_cons] at hf
  obtain⟨f,rfl⟩:∃ g,fuel=g+1:=⟨fuel - 1,by omega⟩
  refine⟨fun h0=>(by rw [hr] at h0;cases h0),fun i hi=>?_⟩
  rw [hr] at hi
  have hib:i=t:=by simpa using hi
  subst hib
  have hrb:i∈Region.ready md ops listed:=by rw [hr];simp
  obtain⟨_,ob,hob,_⟩:=mem_ready.1 hrb
  simp only [c9_,Array.getElem?_toList,hob,dr_] at h
  have h2:wpOp P ops Q i (wpList P ops Q (pickOps ops.toList ts)) a w:=by
   unfold wpOp
   simp only [hob]
   unfold wpList at h
   split
   ·rename_i hw;rw [if_pos hw] at h;exact h
   ·rename_i hw;rw [if_neg hw] at h;exact h
  exact wpOp_mono (fun a2 w2 h3=>⟨fun hk'=>(by rw [hk] at hk';cases hk'),jx_ ts _ f a2 w2 hok (by omega) h3⟩) h2
theorem d3_ {kp ms T:List Nat} (hms:∀ j i,Nat.testBit (ms.getD j 0) i=true→Waits md ops j i) (hsel:Region.noSelect ops=true) (hQ:∀ c a a' w,Q (.panic c) a' w→Q (.panic c) a w):∀ (plan:List (List Nat × Option Nat)) (listed:Array Bool) (fuel:Nat) (a:Act) (w:World),
  DownClosed md ops listed→planOk md ops kp ms T plan listed=true→(plan.map fun p=>p.1.length+p.2.toList.length).sum+T.length≤fuel→wpPlan P ops Q C kp T plan a w→wpAnyK P md ops Q C kp.contains fuel listed a w
 | [],listed,fuel,a,w,_,hok,hf,h=>jx_ T listed fuel a w (by simpa [planOk] using hok) (by simpa using hf) h
 |(A,b)::rest,listed,fuel,a,w,inv,hok,hfuel,h=>by
  simp only [planOk,Bool.and_eq_true] at hok
  obtain⟨ht,hok⟩:=hok
  obtain⟨hC,h⟩:=h
  simp only [List.map_cons,List.sum_cons] at hfuel
  obtain⟨f,rfl⟩:∃ f,fuel=f+A.length:=⟨fuel - A.length,by omega⟩
  refine hb_ hms hsel hQ hC A listed f a inv ht h (fun a' inv' hK=>?_)
  cases b with
  |none=>exact d3_ hms hsel hQ rest _ f a' w inv' hok (by simp at hfuel;omega) hK
  |some b=>
   simp only [Bool.and_eq_true,beq_iff_eq] at hok
   obtain⟨hr,hok⟩:=hok
   simp only [Option.toList_some,List.length_cons,List.length_nil] at hfuel
   obtain⟨f,rfl⟩:∃ g,f=g+1:=⟨f - 1,by omega⟩
   refine⟨fun h0=>(by rw [hr] at h0;cases h0),fun i hi=>?_⟩
   rw [hr] at hi
   have hib:i=b:=by simpa using hi
   subst hib
   have hrb:i∈Region.ready md ops (A.foldl (fun l i=>l.setIfInBounds i true) listed):=by rw [hr];simp
   obtain⟨_,ob,hob,_⟩:=mem_ready.1 hrb
   simp only [c9_,Array.getElem?_toList,hob,dr_,fz_] at hK
   exact wpOp_mono (fun a2 w2 h3=>⟨h3.1,d3_ hms hsel hQ rest _ f a2 w2 (inv'.set hrb) hok (by omega) h3.2⟩) (m5_ hob hK)
theorem jn_ {id:Nat} {a:Act} {w:World} {l:List Oper} (C:World→Prop) (kp:List Nat) (plan:List (List Nat × Option Nat)) (T:List Nat) (hm:P.follows .mixedOrders=true)
  (hok:(Region.noSelect l.toArray && planOk .any l.toArray kp (masks .any l []) T plan (Array.replicate l.length false) && decide ((plan.map fun p=>p.1.length+p.2.toList.length).sum+T.length≤l.length))=true)
  (h:wpPlan P l.toArray (NoPanic Q) C kp T plan a w.drew):(Code.region id l.toArray true).wp P Q a w:=by
 simp only [Bool.and_eq_true,decide_eq_true_eq] at hok
 refine wp_region_noPanic (wp_region_any hm (jw_ (C:=C) _ _ _ _ (d3_ (gw_ l [] (by simp) (by simp)) hok.1.1 (fun _ _ _ _ h=>h) plan _ _ a _ (DownClosed.none _ _ _) (by simpa using hok.1.2) (by simpa using hok.2) h)))
end
structure Cls (S:World→Prop) where
 w:World
 ok:S w
theorem Cls.ne {S:World→Prop} {w:World} (h:S w):Nonempty (Cls S):=⟨⟨w,h⟩⟩
theorem Of.mk {S:World→Prop} {w:World} (h:S w):∃ x:Cls S,w=x.w:=⟨⟨w,h⟩,rfl⟩
section
variable {P:Program} {Q:Exit→Act→World→Prop}
theorem sn_ {id:Nat} {a:Act} {w:World} {l:List Oper} (S:World→Prop) (kp:List Nat) (plan:List (List Nat × Option Nat)) (T:List Nat) (hm:P.follows .mixedOrders=true)
  (hok:(Region.noSelect l.toArray && planOk .any l.toArray kp (masks .any l []) T plan (Array.replicate l.length false) && decide ((plan.map fun p=>p.1.length+p.2.toList.length).sum+T.length≤l.length))=true)
  (h:wpPlan P l.toArray (NoPanic Q) (fun w'=> ∃ x:Cls S,w'=x.w) kp T plan a w.drew):(Code.region id l.toArray true).wp P Q a w:=
 jn_ _ kp plan T hm hok h
end
end Go.PP
set_option maxHeartbeats 400000
namespace Go.PP
open Go Go.RowKit
abbrev Fix (w w':World):Prop:=Mut (fun _=>False) w w'
end Go.PP
