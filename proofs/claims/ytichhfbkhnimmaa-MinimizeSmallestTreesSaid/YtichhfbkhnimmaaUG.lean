/- A machine over data: slices made, grown and stored into. No condition. -/
import Derived.Test.YtichhfbkhnimmaaUF
set_option linter.unusedSimpArgs false
set_option linter.unusedVariables false
set_option linter.unusedSectionVars false
set_option maxHeartbeats 400000
namespace Go.Dm
open Go Go.RowKit Go.PP
variable [GlobW] [Rnd]
section
variable {P:Program} {N:Nat} {dst:Option Tmp} {ty:TypeId} {pos:String} {af:Array Edge} {gd:Option (Nat × Bool)}
theorem T.buildS0 {fs:List Field} {pl:List (Nat × Nat)} {z:Value} (t:TypeId) (ht:P.underlying t=some (.struct fs.toArray)) (hz:zeroT P t=some z) (hp:placesD P fs=some pl):
 Tri P N ⟨dst,.build t #[],ty,pos,af,gd⟩ [] [] (.agg (flats z.cells)) []:=T.buildS t [] ht hz hp rfl
theorem il_ {M:Nat→Prop} {w:World} {G:Cx} {ρ:Operand→Value} {len n e:Nat} {z:Value} {cs:List D} (t:TypeId) (ps:List (Nat × Operand × D)) (ht:P.underlying t=some (.slice e)) (hz:zeroT P e=some z) (hn:sizeOfT P e=some n)
  (hl:len*n≤16777216) (h:∀ base:List D,base.length=len*n→fillD (fun i=>some (i*n,n)) base (partsF ps)=some cs) (hv:Vals M w G ρ (partsE ps)):
  ∃ us:List Value,(execOp ρ ⟨dst,.buildSlice t len (partsO ps).toArray,ty,pos,af,gd⟩).run P w= .ok (.value (.slice (some ⟨w.heap.size,0,none⟩) len len)) (w.alloc (.cells us.toArray e))∧RepL M w G cs us:=by
 obtain⟨us,h1,h2⟩:=li_ (M:=M) (w:=w) (G:=G) (ρ:=ρ) (h (flats ((Array.range (len*n)).map ((if len*n=0 then #[] else z.cells)[· % (if len*n=0 then #[] else z.cells).size]!))) (by simp [flats])) (id_ _) hv
 refine⟨us,?_,h2⟩
 simp only [Array.toArray_toList] at h1
 simp only [execOp,Instr.buildSlice,Sem.run_bind,ai_ ht,Result.andThen_ok,bt_ hn]
 rw [if_neg (by omega)]
 by_cases h0:len*n=0
 ·rw [if_pos h0] at h1
  rw [if_pos h0]
  simp only [Sem.run_bind,Sem.run_pure,Result.andThen_ok,ia_]
  rw [h1]
  simp only [newRow,Sem.run_bind,em_,Result.andThen_ok,Sem.run_pure]
 ·rw [if_neg h0] at h1
  rw [if_neg h0]
  simp only [Sem.run_bind,d9_ hz,Sem.run_pure,Result.andThen_ok,ia_]
  rw [h1]
  simp only [newRow,Sem.run_bind,em_,Result.andThen_ok,Sem.run_pure]
theorem z2_ {M:Nat→Prop} {w:World} {G:Cx} {cs:List D} {us:List Value} {n len:Nat} {e:TypeId} (hM:∀ b,M b→b<w.heap.size) (hr:RepL M w none cs us) (hl:cs.length=len*n) (hm:len≤9223372036854775807):
  Rep M (w.alloc (.cells us.toArray e)) G (.sl true n len cs) (.slice (some ⟨w.heap.size,0,none⟩) len len):=by
 have hfx:Fix w (w.alloc (.cells us.toArray e)):=(Mut.refl _ w).alloc _
 simp only [Rep]
 refine⟨_,len,rfl,Nat.le_refl _,fun _=>rfl,hl,hm,.inr ⟨w.heap.size,0,rfl,fun h=>by have:=hM _ h;omega,RepC.of fun i d hd=>?_⟩⟩
 obtain⟨u,hu,hr'⟩:=(hr.fix hfx).get i hd
 exact⟨u,by rw [Nat.zero_add];simp only [World.cell?];rw [heap_alloc_new];simpa using hu,hr'⟩
theorem T.buildSl {len n e:Nat} {z:Value} {cs:List D} (t:TypeId) (ps:List (Nat × Operand × D)) (ht:P.underlying t=some (.slice e)) (hz:zeroT P e=some z) (hn:sizeOfT P e=some n) (hl:len*n≤16777216) (hm:len≤9223372036854775807)
  (h:∀ base:List D,base.length=len*n→fillD (fun i=>some (i*n,n)) base (partsF ps)=some cs) (hp:persL cs=true) (hlc:cs.length=len*n):
  Tri P N ⟨dst,.buildSlice t len (partsO ps).toArray,ty,pos,af,gd⟩ (partsE ps) [] (.sl true n len cs) []:=Tri.run fun M w G ρ hM hv=>by
 obtain⟨us,h1,h2⟩:=il_ (P:=P) (dst:=dst) (ty:=ty) (pos:=pos) (af:=af) (gd:=gd) t ps ht hz hn hl h hv
 exact⟨_,_,h1,(Mut.refl _ w).alloc _,z2_ hM (RepL.down cs us hp h2) hlc hm⟩
theorem T.buildOwn {len n e:Nat} {z:Value} {cs:List D} (id:Nat) (t:TypeId) (ps:List (Nat × Operand × D)) (ht:P.underlying t=some (.slice e)) (hz:zeroT P e=some z) (hn:sizeOfT P e=some n) (hl:len*n≤16777216) (hm:len≤maxLen)
  (h:∀ base:List D,base.length=len*n→fillD (fun i=>some (i*n,n)) base (partsF ps)=some cs) (hlc:cs.length=len*n) (hid:newId N id=true:=by first|exact rfl|decide +kernel):
  Tri P N ⟨dst,.buildSlice t len (partsO ps).toArray,ty,pos,af,gd⟩ (partsE ps) [(id,none)] (.own id len) [(id,some (.row e n len cs))]:=Tri.make hid fun M w G ρ hv=>by
 obtain⟨us,h1,h2⟩:=il_ (P:=P) (dst:=dst) (ty:=ty) (pos:=pos) (af:=af) (gd:=gd) t ps ht hz hn hl h hv
 exact⟨_,us,e,h1,.inr ⟨n,len,cs,rfl,rfl,rfl,by rw [← h2.length];exact hlc,hm,h2⟩⟩
theorem fill1 {n:Nat} {d:D} {cs base:List D} (h:cellsD d=some cs) (hl:cs.length=n) (hb:base.length=1*n):fillD (fun i=>some (i*n,n)) base [(0,d)]=some cs:=by
 simp only [fillD,h,Nat.zero_mul,Nat.zero_add]
 rw [if_pos ⟨hl,by omega⟩]
 congr 1
 unfold spliceD
 simp;omega
theorem fill2 {n:Nat} {d d2:D} {cs cs2 base:List D} (h:cellsD d=some cs) (hl:cs.length=n) (h2:cellsD d2=some cs2) (hl2:cs2.length=n) (hb:base.length=2*n):fillD (fun i=>some (i*n,n)) base [(0,d),(1,d2)]=some (cs++cs2):=by
 simp only [fillD,h,h2,Nat.zero_mul,Nat.zero_add,Nat.one_mul]
 have hs:(spliceD base 0 cs).length=base.length:=ci_ (by omega)
 rw [if_pos ⟨hl,by omega⟩,if_pos ⟨hl2,by omega⟩]
 congr 1
 unfold spliceD
 simp [hl];omega
theorem T.buildSl1 {n e:Nat} {z:Value} {cs:List D} {d:D} (t:TypeId) (x:Operand) (ht:P.underlying t=some (.slice e)) (hz:zeroT P e=some z) (hn:sizeOfT P e=some n) (hd:cellsD d=some cs) (hl:cs.length=n) (hs:n≤16777216) (hp:persL cs=true):
  Tri P N ⟨dst,.buildSlice t 1 #[(0,x)],ty,pos,af,gd⟩ [(x,d)] [] (.sl true n 1 cs) []:=
 T.buildSl t [(0,x,d)] ht hz hn (by omega) (by omega) (fun base hb=>fill1 hd hl hb) hp (by omega)
theorem T.buildSl2 {n e:Nat} {z:Value} {cs cs2:List D} {d d2:D} (t:TypeId) (x y:Operand) (ht:P.underlying t=some (.slice e)) (hz:zeroT P e=some z) (hn:sizeOfT P e=some n) (hd:cellsD d=some cs) (hl:cs.length=n) (hd2:cellsD d2=some cs2) (hl2:cs2.length=n) (hs:n≤8388608) (hp:persL (cs++cs2)=true):
  Tri P N ⟨dst,.buildSlice t 2 #[(0,x),(1,y)],ty,pos,af,gd⟩ [(x,d),(y,d2)] [] (.sl true n 2 (cs++cs2)) []:=
 T.buildSl t [(0,x,d),(1,y,d2)] ht hz hn (by omega) (by omega) (fun base hb=>fill2 hd hl hd2 hl2 hb) hp (by simp;omega)
theorem T.buildOwn0 {n e:Nat} {z:Value} (id:Nat) (t:TypeId) (ht:P.underlying t=some (.slice e)) (hz:zeroT P e=some z) (hn:sizeOfT P e=some n) (hid:newId N id=true:=by first|exact rfl|decide +kernel):
  Tri P N ⟨dst,.buildSlice t 0 #[],ty,pos,af,gd⟩ [] [(id,none)] (.own id 0) [(id,some (.row e n 0 []))]:=
 T.buildOwn id t [] ht hz hn (by omega) (by omega) (fun base hb=>by simp at hb;subst hb;rfl) (by simp) hid
theorem T.buildOwn1 {n e:Nat} {z:Value} {cs:List D} {d:D} (id:Nat) (t:TypeId) (x:Operand) (ht:P.underlying t=some (.slice e)) (hz:zeroT P e=some z) (hn:sizeOfT P e=some n) (hd:cellsD d=some cs) (hl:cs.length=n) (hs:n≤16777216) (hid:newId N id=true:=by first|exact rfl|decide +kernel):
  Tri P N ⟨dst,.buildSlice t 1 #[(0,x)],ty,pos,af,gd⟩ [(x,d)] [(id,none)] (.own id 1) [(id,some (.row e n 1 cs))]:=
 T.buildOwn id t [(0,x,d)] ht hz hn (by omega) (by decide) (fun base hb=>fill1 hd hl hb) (by omega) hid
theorem StG.row {w0:World} {M0:Nat→Prop} {B0:Bd} {g:Gh} {s:DS} {a:Act} {w w':World} (h:StG w0 M0 B0 N g s a w) {id e n L L':Nat} {cs cs':List D} {v':Value} {vs':List Value} (he:lkE s.σ id=some (.row e n L cs)) (m:Mut (fun b=>(g.row id).ownBlock=some b) w w')
  (hL:L≤L') (hv:L'=L→v'=g.row id) (hown:OwnR w' e n v' L' vs') (hb:∀ b,v'.ownBlock=some b→b<w.heap.size→(g.row id).ownBlock=some b)
  (hr:∀ M:Nat→Prop,(∀ b,b<w.heap.size→M b→Mx M0 g s.σ b)→RepL M w' (some (⟨g.blk,fun k=>if k=id then v' else g.row k⟩,(id,some (.row e n L' cs'))::s.σ)) cs' vs')
  {dst:Option Tmp} (hd:dstOk N dst=true) {d:D} {v:Value} (hd2:∀ M:Nat→Prop,(∀ b,b<w.heap.size→M b→Mx M0 g s.σ b)→Rep M w' (some (⟨g.blk,fun k=>if k=id then v' else g.row k⟩,(id,some (.row e n L' cs'))::s.σ)) d v):
  StG w0 M0 B0 N ⟨g.blk,fun k=>if k=id then v' else g.row k⟩ ⟨updF s.f dst d,(id,some (.row e n L' cs'))::s.σ⟩ (a.put dst v) w':=by
 have hbo:blkOf g s.σ id=(g.row id).ownBlock:=by unfold blkOf;rw [he]
 refine  h.set1 (g':=⟨g.blk,fun k=>if k=id then v' else g.row k⟩) id (.row e n L' cs') (fun h0=>by rw [he] at h0;cases h0) (m.mono fun b _ hb=>by rw [hbo];exact hb) (fun k hk=>rfl) (fun k hk=>by simp [hk]) ⟨fun k cs hk=>?_,fun k e1 n1 l1 c1 hk=>?_,fun k hk=>by
        have hne:¬ id=k:=fun e1=>by subst e1;simp only at hk;rw [he] at hk;cases hk
        simp only at hk ⊢
        rw [aa_,if_neg hne];exact hk⟩ ?_ ?_ hd hd2
 ·have hne:¬ id=k:=fun e1=>by subst e1;simp only at hk;rw [he] at hk;cases hk
  exact⟨⟨cs,by rw [aa_,if_neg hne];exact hk⟩,rfl⟩
 ·by_cases e2:id=k
  ·subst e2
   simp only at hk
   rw [he] at hk;cases hk
   exact .inr ⟨e,n,L',cs',by rw [aa_,if_pos rfl],hL,fun e3=>by simp;exact hv e3⟩
  ·exact .inr ⟨e1,n1,l1,c1,by rw [aa_,if_neg e2];exact hk,Nat.le_refl _,fun _=>by simp [show ¬ k=id from fun e=>e2 e.symm]⟩
 ·intro b hb'
  simp only [blkOf,aa_,if_pos] at hb'
  refine⟨?_,fun hlt=>by rw [hbo];exact hb b hb' hlt⟩
  rcases hown.2 with⟨h1,_⟩| ⟨g1,o1,cap,cur,fz,h1,h3,_⟩
  ·rw [h1] at hb';simp [Value.ownBlock] at hb'
  ·rw [h1] at hb'
   simp only [Value.ownBlock,Option.some.injEq] at hb'
   subst hb'
   exact (Array.getElem?_eq_some_iff.1 h3).1
 ·intro M hM
  exact⟨vs',by simpa using hown,hr M hM⟩
theorem n0_ {α:Type} {vs us:List α} {o:Nat} {u:α} (h:o+(us.length+1)≤vs.length):spliceD (vs.set o u) (o+1) us=spliceD vs o (u::us):=by
 apply List.ext_getElem?
 intro k
 rw [di_ (by simp;omega),di_ (by simp;omega)]
 simp only [List.length_cons,List.getElem?_set]
 by_cases h1:k<o
 ·rw [if_pos (by omega),if_neg (by omega),if_pos h1]
 ·by_cases h2:k=o
  ·subst h2
   simp;omega
  ·rw    [if_neg (by omega),if_neg h1]
   by_cases h3:k<o+1+us.length
   ·    rw [if_pos h3,if_pos (by omega)]
        rw [show k - o=(k - (o+1))+1 by omega];simp
   ·rw [if_neg h3,if_neg (by omega),if_neg (by omega)]
theorem cm_ (b:Nat) (T:TypeId) {fz:Nat × Nat}:∀ (us vs:List Value) (o:Nat) (w:World),w.heap[b]?=some (.cells vs.toArray T fz)→o+us.length≤vs.length→(w.setCells b o us).heap[b]?=some (.cells (spliceD vs o us).toArray T fz)
 | [],vs,o,w,h,hl=>by rw [World.setCells,h];simp [spliceD]
 |u::us,vs,o,w,h,hl=>by
  rw [World.setCells,cm_ b T us (vs.set o u) (o+1) _ ?_ (by simp at hl ⊢;omega),n0_ (by simpa using hl)]
  simp [World.setCell,Array.getElem?_modify,h]
theorem cz_ (b:Nat):∀ (us:List Value) (o:Nat) (w:World),Mut (fun k=>k=b) w (w.setCells b o us)
 | [],o,w=>Mut.refl _ w
 |u::us,o,w=>((Mut.refl (fun k=>k=b) w).setCell (p:=⟨b,o,none⟩) (fun _=>rfl) u).trans (cz_ b us (o+1) _)
theorem iw_ {w:World} {b i:Nat} {cur:Array Value} {e:TypeId} {fz:Nat × Nat} (hb:w.heap[b]?=some (.cells cur e fz)) (hfz:fz=(0,0)∨cur.size≤fz.1) (hi:i<cur.size):w.frozen? ⟨b,i,none⟩=false:=by
 simp only [World.frozen?,hb]
 rcases hfz with rfl|h
 ·simp
 ·simp;omega
structure Src (P:Program) (w:World) (xt:TypeId) (size m:Nat) (x:Value) (news:List Value):Prop where
 ty:(∃ e,P.underlying xt=some (.slice e))∨P.underlying xt=some .string
 len:∀ w',(Builtin.lenOf x).run P w'= .ok m w'
 fst:∀ w',w'.heap=w.heap→(Builtin.firstCells size m x).run P w'= .ok news.toArray w'
theorem ij_ {w:World} (t xt ty e:TypeId) {z:Value} {size bytes:Nat} (ht:P.underlying t=some (.slice e)) (hinfo:(P.info? e).map (fun i=>(i.zero,i.size,i.bytes))=some (some z,size,bytes)) (hzs:z.cells.size=size) (hsz:0<size)
  (v:Value) (n:Nat) (cs:List Value) (hown:OwnR w e size v n cs) (x:Value) (m:Nat) (news:List Value) (hs:Src P w xt size m x news) (hl:news.length=m*size) (h1:∀ u∈news,u.oneCell'=true)
  (hby:(n+m)*bytes≤140737488355328) (hbp:0<bytes):
  ∃ v' w',(Builtin.append_ #[t,xt] ty #[v,x]).run P w= .ok v' w'∧OwnR w' e size v' (n+m) (cs++news)∧Mut (fun k=>v.ownBlock=some k) w w'∧
    (∀ k,v'.ownBlock=some k→v.ownBlock=some k∨w.heap.size≤k)∧(m=0→v'=v):=by
 obtain⟨i,hi,hz,hsize,hbytes⟩:=info_parts hinfo
 have hn:n+m≤140737488355328:=Nat.le_trans (Nat.le_mul_of_pos_right _ hbp) hby
 have hlen:(cs++news).length=(n+m)*size:=by rw [List.length_append,hown.1,hl,Nat.add_mul]
 subst hsize;subst hbytes
 have grown:∀ (old:Nat),old<n+m→
    OwnR (w.drew.alloc (.cells (cs.toArray++news.toArray++Builtin.zeroCells z.cells (grownCap w (n+m) old e - (n+m))) e)) e i.size (.slice (some ⟨w.heap.size,0,none⟩) (n+m) (grownCap w (n+m) old e)) (n+m) (cs++news):=by
  intro old ho
  have hge:=grownCap_ge w (n+m) old e
  have hcm:grownCap w (n+m) old e≤maxLen:=grownCap_le_maxLen w (n+m) old e (by unfold maxLen;omega)
  refine⟨hlen,.inr ⟨w.heap.size,0,_,_,(0,0),rfl,heap_alloc_new w.drew _,.inl rfl,hge,hcm,?_,?_⟩⟩
  · simp only [Array.size_append,List.size_toArray,size_zeroCells,hzs,hown.1,hl,← Nat.add_mul,Nat.zero_add]
    exact Nat.mul_le_mul_right _ (by omega)
  · simp only [Array.toList_append,List.append_assoc,List.drop_zero]
    rw [← List.append_assoc,← hlen]
    exact List.take_left
 have hf0:=hs.fst w rfl
 have hf1:=hs.fst w.drew rfl
 have hl0:=hs.len w
 have hm2:∀ o,Mut (fun k=>v.ownBlock=some k) w (w.drew.alloc o):=fun o=>(Mut.refl _ w).drew.alloc o
 rcases hown.2 with⟨rfl,rfl⟩| ⟨g,off,cap,cur,fz,rfl,hg,hfz,hnc,hcm,hcs,htake⟩
 ·have hcs0:cs=[]:=List.eq_nil_of_length_eq_zero (by simpa using hown.1)
  subst hcs0
  by_cases hm:m=0
  · subst hm
    have hnn:news=[]:=List.eq_nil_of_length_eq_zero (by simpa using hl)
    subst hnn
    refine⟨.slice none 0 0,w,?_,by simpa using OwnR.nil w e i.size,Mut.refl _ w,fun k hk=> .inl hk,fun _=>rfl⟩
    rcases hs.ty with⟨e2,hty⟩|hty <;> simp [Builtin.append_,ai_ ht,ai_ hty,sizeOf,typeInfo,hi,hl0,hf0]
  · have hgr:=grown 0 (by omega)
    simp only [Nat.zero_add] at hgr hby ⊢
    have h63':¬ (9223372036854775807<(m:Int)):=by omega
    have h48':¬ (281474976710656<Builtin.nextslicecap m 0*i.bytes):=by rw [nextslicecap_zero (by omega)];omega
    refine⟨_,_,?_,hgr,hm2 _,fun k hk=> .inr (by simp [Value.ownBlock] at hk;omega),fun h=>absurd h hm⟩
    rcases hs.ty with⟨e2,hty⟩|hty <;> simp [Builtin.append_,ai_ ht,ai_ hty,sizeOf,typeInfo,zeroValue,hi,hz,hl0,hf1,hm,h63',h48',Question.forced,run_firstCells_none,newRow,grownCap]
 ·by_cases   hroom:n+m≤cap
  · have  hfit:off+n*i.size+news.length≤cur.toList.length:=by rw [hl,Nat.add_assoc,← Nat.add_mul];simp only [Array.length_toList];exact Nat.le_trans (Nat.add_le_add_left (Nat.mul_le_mul_right _ hroom) _) hcs
    have hst:=run_storeCells_cells (P:=P) g (off+n*i.size) news 0 w (fun j hj=>by simp only [World.cell?,hg];simp at hfit ⊢;omega) (fun j hj=>iw_ hg hfz (by simp at hfit;omega)) h1
    simp only [Nat.add_zero] at hst
    have hg':w.heap[g]?=some (.cells cur.toList.toArray e fz):=by simpa using hg
    refine⟨.slice (some ⟨g,off,none⟩) (n+m) cap,w.setCells g (off+n*i.size) news,?_,⟨hlen,.inr ⟨g,off,cap,_,fz,rfl,cm_ g e news cur.toList (off+n*i.size) w hg' hfit,?_,hroom,hcm,?_,?_⟩⟩,(cz_ g news _ w).mono fun b _ hb=>by subst hb;rfl,fun k hk=> .inl hk,fun h=>?_⟩
    ·rcases hs.ty with⟨e2,hty⟩|hty <;> simp [Builtin.append_,ai_ ht,ai_ hty,sizeOf,typeInfo,hi,hl0,hroom,hf0,Addr.add_lit,hst]
    ·simpa [ci_ hfit] using hfz
    ·simpa [ci_ hfit] using hcs
    ·   have hol:=hown.1
        apply List.ext_getElem?
        intro k
        rw [List.toList_toArray,List.getElem?_take,List.getElem?_drop,di_ hfit]
        by_cases hk:k<n*i.size
        ·rw [if_pos (show k<(n+m)*i.size by rw [Nat.add_mul];omega),if_pos (show off+k<off+n*i.size by omega),List.getElem?_append_left (by omega),← htake,List.getElem?_take,if_pos hk,List.getElem?_drop]
        ·rw  [if_neg (show ¬ off+k<off+n*i.size by omega)]
         by_cases hk2:k<n*i.size+news.length
         ·  rw [if_pos (show k<(n+m)*i.size by rw [Nat.add_mul];omega),if_pos (show off+k<off+n*i.size+news.length by omega),List.getElem?_append_right (by omega),hol]
            congr 1;omega
         ·rw [if_neg (show ¬ k<(n+m)*i.size by rw [Nat.add_mul];omega),List.getElem?_eq_none (by simp;omega)]
    ·subst h;rfl
  · have holds:∀ j u,cs[j]?=some u→w.cell? ((⟨g,off,none⟩:Addr).add j)=some u:=fun j u hu=>by
        have hj:=(List.getElem?_eq_some_iff.1 hu).1
        have h5:((cur.toList.drop off).take (n*i.size))[j]?=some u:=by rw [htake];exact hu
        rw [List.getElem?_take,if_pos (by rw [← hown.1];exact hj),List.getElem?_drop] at h5
        rw [ct_]
        simp only [World.cell?,hg]
        simpa using h5
    have hgr:=grown cap (by omega)
    have hfo:=run_firstCells_some (P:=P) w.drew i.size n ⟨g,off,none⟩ n cap cs hown.1 (by simpa using holds)
    have hn':¬ (n+m≤cap):=hroom
    have h63':¬ (9223372036854775807<((n:Int)+(m:Int))):=by omega
    have h48':¬ (281474976710656<Builtin.nextslicecap (n+m) cap*i.bytes):=by have:=growslice_fits (old:=cap) (need:=n+m) (by omega) hby;omega
    refine⟨_,_,?_,hgr,hm2 _,fun k hk=> .inr (by simp [Value.ownBlock] at hk;omega),fun h=>absurd (by omega) hroom⟩
    rcases hs.ty with⟨e2,hty⟩|hty
    all_goals
        simp [Builtin.append_,ai_ ht,ai_ hty,sizeOf,typeInfo,zeroValue,hi,hz,hl0,hn',h63',h48',Question.forced,hf1,hfo,newRow,grownCap]
        congr 2
        apply Array.ext'
        simp [List.append_assoc]
theorem Src.sl {w:World} {xt e size m c:Nat} {ad:Option Addr} {news:List Value} (hty:P.underlying xt=some (.slice e)) (hl:news.length=m*size) (hnil:ad=none→news=[]) (hnews:∀ a,ad=some a→ ∀ j u,news[j]?=some u→w.cell? (a.add j)=some u):Src P w xt size m (.slice ad m c) news:=by
 refine⟨.inl ⟨e,hty⟩,fun w'=>rfl,fun w' hw=>?_⟩
 cases ad with
 |none=>rw [hnil rfl];simp [Builtin.firstCells]
 |some a=>exact run_firstCells_some (P:=P) w' size m a m c news hl (fun j u hj=>by rw [World.cell?_of_block (w:=w) (by rw [hw])];exact hnews a rfl j u hj)
theorem lc_ {w w':World} {ρ:Operand→Value} {x y:Operand} {t xt:TypeId} {v u v':Value} (hx:ρ x=v) (hy:ρ y=u) (h:(Builtin.append_ #[t,xt] ty #[v,u]).run P w= .ok v' w'):
  (execOp ρ ⟨dst,.call { callee:= .builtin .append,args:= #[x,y],argTypes:= #[t,xt] },ty,pos,af,gd⟩).run P w= .ok (.value v') w':=by
 simp only [execOp,resolve,invoke,builtin,Sem.run_bind,Sem.run_pure,Result.andThen_ok,List.map_toArray,List.map_cons,List.map_nil,hx,hy,h]
theorem StG.grown {w0:World} {M0:Nat→Prop} {B0:Bd} {g:Gh} {s:DS} {a:Act} {w w':World} (hs:StG w0 M0 B0 N g s a w) {id e n L m:Nat} {cs ds:List D} {vs news:List Value} {v':Value} (he:lkE s.σ id=some (.row e n L cs)) (o2:RepL (Mx M0 g s.σ) w (some (g,s.σ)) cs vs)
  (hnew:RepL (Mx M0 g s.σ) w (some (g,s.σ)) ds news) (p2:OwnR w' e n v' (L+m) (vs++news)) (hm:Mut (fun k=>(g.row id).ownBlock=some k) w w') (p4:∀ k,v'.ownBlock=some k→(g.row id).ownBlock=some k∨w.heap.size≤k) (p5:m=0→v'=g.row id) (hd:dstOk N dst=true):
  St w0 M0 B0 N ⟨updF s.f dst (.own id (L+m)),[(id,some (.row e n (L+m) (cs++ds)))]++s.σ⟩ (a.put dst v') w':=by
 have hgr:Grow (g,s.σ) (⟨g.blk,fun k=>if k=id then v' else g.row k⟩,(id,some (.row e n (L+m) (cs++ds)))::s.σ):=⟨fun k cs hk=>by
   have hne:¬ id=k:=fun e1=>by subst e1;simp only at hk;rw [he] at hk;cases hk
   exact⟨⟨cs,by rw [aa_,if_neg hne];exact hk⟩,rfl⟩,fun k e1 n1' l1 c1 hk=>by
   by_cases e2:id=k
   ·    subst e2
        simp only at hk
        rw [he] at hk;cases hk
        exact .inr ⟨e,n,L+m,_,by rw [aa_,if_pos rfl],by omega,fun e3=>by simp;rw [p5 (by omega)]⟩
   ·exact .inr ⟨e1,n1',l1,c1,by rw [aa_,if_neg e2];exact hk,Nat.le_refl _,fun _=>by simp [show ¬ k=id from fun e=>e2 e.symm]⟩,fun k hk=>by
   have hne:¬ id=k:=fun e1=>by subst e1;simp only at hk;rw [he] at hk;cases hk
   simp only at hk ⊢
   rw [aa_,if_neg hne];exact hk⟩
 have hS:∀ b,b<w.heap.size→(g.row id).ownBlock=some b→Mx M0 g s.σ b:=fun b _ hb=> .inr ⟨id,by unfold blkOf;rw [he];exact hb⟩
 obtain⟨a5,c5,hv5⟩:∃ a c,v'= .slice a (L+m) c:=by
  rcases p2.2 with⟨h,h0⟩| ⟨g1,o1,cap,cur,fz,h,_⟩
  ·exact⟨none,0,by rw [h,h0]⟩
  ·exact⟨_,_,h⟩
 refine⟨_,hs.row (v':=v') (vs':=vs++news) (L':=L+m) (cs':=cs++ds) he hm (by omega) (fun e=>p5 (by omega)) p2 (fun b hb hlt=>?_) (fun M hM=>?_) hd (fun M hM=>?_)⟩
 ·rcases p4 b hb with h|h
  ·exact h
  ·omega
 ·exact RepL.append (RepL.step (G:=some _) (G':=some _) hgr hm hS hM cs vs o2) (RepL.step (G:=some _) (G':=some _) hgr hm hS hM ds news hnew)
 ·simp only [Rep]
  exact⟨_,_,rfl,.inr ⟨e,n,L+m,cs++ds,by rw [aa_,if_pos rfl],Nat.le_refl _,fun _=>by simp⟩,a5,c5,hv5⟩
theorem T.appendG {id e n L m bytes:Nat} {z:Value} {f:Bool} {cs ds:List D} {dy:D} (t x y) (ht:P.underlying t=some (.slice e)) (hinfo:(P.info? e).map (fun i=>(i.zero,i.size,i.bytes))=some (some z,n,bytes)) (hzs:z.cells.size=n) (hsz:0<n) (hbp:0<bytes)
  (hle:Le dy (.sl f n m ds)) (ho:oneL ds=true) (hby:(L+m)*bytes≤140737488355328):
  Tri P N ⟨dst,.call { callee:= .builtin .append,args:= #[x,y],argTypes:= #[t,t] },ty,pos,af,gd⟩ [(x,.own id L),(y,dy)] [(id,some (.row e n L cs))] (.own id (L+m)) [(id,some (.row e n (L+m) (cs++ds)))]:=by
 refine⟨?_⟩
 intro w0 M0 B0 s a w next Q h1 h2 hd ⟨g,hs⟩ hk
 have he:=h2.1
 have hvx:=hs.eval x
 have hvy:=hs.eval y
 rw [show evalD s.f x= .own id L from h1.1] at hvx
 rw [show evalD s.f y=dy from h1.2.1] at hvy
 replace hvy:=hle _ _ _ _ hs.mlt hvy
 obtain⟨hu,vs,o1,o2⟩:=e6_ hs he hvx
 simp only [Rep] at hvy
 obtain⟨ad,c,r1,r2,r3,r4,r5,r6⟩:=hvy
 obtain⟨news,n1,n2,n3⟩:∃ news:List Value,RepL (Mx M0 g s.σ) w none ds news∧(ad=none→news=[])∧ ∀ a,ad=some a→ ∀ j u,news[j]?=some u→w.cell? (a.add j)=some u:=by
  rcases r6 with r6| ⟨b,off,rfl,r7,r8⟩
  ·have hds:ds=[]:=List.eq_nil_of_length_eq_zero (by rw [r4];exact r6)
   subst hds
   exact⟨[],by simp only [RepL],fun _=>rfl,fun a _ j u h=>by simp at h⟩
  ·obtain⟨news,q1,q2⟩:=RepC.vals r8
   exact⟨news,q1,(fun h=>by cases h),fun a ha j u hj=>by cases ha;rw [ct_];exact q2 j u hj⟩
 have hln:news.length=m*n:=by rw [← n1.length];exact r4
 obtain⟨v',w',hr,p2,p3,p4,p5⟩:=ij_ (P:=P) t t ty e ht hinfo hzs hsz _ L vs o1 _ m news (Src.sl (c:=c) ht hln n2 n3) hln (RepL.one ho n1) hby hbp
 refine cy_ (lc_ rfl r1 hr) ?_
 rw [hu] at p3 p4 p5
 exact hk _ _ (hs.grown he o2 n1.up p2 p3 p4 p5 hd)
theorem T.append {id e n L m bytes:Nat} {z:Value} {f:Bool} {cs ds:List D} (t:TypeId) (x y:Operand) (ht:P.underlying t=some (.slice e)) (hinfo:(P.info? e).map (fun i=>(i.zero,i.size,i.bytes))=some (some z,n,bytes)) (hzs:z.cells.size=n) (hsz:0<n) (hbp:0<bytes)
 (ho:oneL ds=true) (hby:(L+m)*bytes≤140737488355328):
 Tri P N ⟨dst,.call { callee:= .builtin .append,args:= #[x,y],argTypes:= #[t,t] },ty,pos,af,gd⟩ [(x,.own id L),(y,.sl f n m ds)] [(id,some (.row e n L cs))] (.own id (L+m)) [(id,some (.row e n (L+m) (cs++ds)))]:=T.appendG t x y ht hinfo hzs hsz hbp (Le.refl _) ho hby
end
end Go.Dm
