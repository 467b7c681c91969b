/- The blocks of a flat partition, counted. No condition. -/
import Derived.Test.YtichhfbkhnimmaaVPM2
import Derived.Test.YtichhfbkhnimmaaVKE
set_option linter.unusedSimpArgs false
set_option linter.unusedVariables false
set_option maxHeartbeats 4000000
set_option maxRecDepth 8000
namespace Go.Proofs.Ytichhfbkhnimmaa
open Go Go.RowKit Go.PP Go.Dm Go.Rt Go.Mn
def cs_ (R:List Int) (h:Int):Nat→List Int
 |0=> []
 |k+1=>cs_ R h k++if R[k]?=some h then [(k:Int)] else []
theorem jf_ (R:List Int) (h:Int):∀ k,(cs_ R h k).length≤k
 |0=>by simp [cs_]
 |k+1=>by have:=jf_ R h k;simp only [cs_,List.length_append];split <;> simp <;> omega
theorem PartX.hp {w:World} {p u:Nat} {c:Nat × Nat} {U:List Int} (h:PartX w p u c U):w.cell? ⟨p,0,none⟩=some (.slice (some ⟨u,c.1,none⟩) U.length c.2):=by
 obtain⟨_,_,_,T,hp,_⟩:=h
 simp [World.cell?,hp]
theorem uf_ (w:World) (p u:Nat) (cc:Nat × Nat) (n:Nat) (R:List Int) (hlen:R.length=n) (hs:n≤4096) (hP:PartX w p u cc R):Calls Try.prog 17 #[.pointer (some ⟨p,0,none⟩)] w fun e w'=>e= .returned (.int .i64 n)∧w=w':=by
 have hp:=hP.hp
 rw [hlen] at hp
 clear hP
 go_enter Try.func17,Try.ntmps17
 go_wp2
 go_ret
 exact⟨rfl,rfl⟩
def ur_ (w:World) (p u:Nat) (cc:Nat × Nat) (R:List Int) (a:Nat) (e:Ending) (w':World):Prop:=
 ∃ r:Nat,e= .returned (.int .i64 r)∧R[a]?=some (r:Int)∧R[r]?=some (r:Int)∧r≤a∧PartX w' p u cc R∧Mut (fun b=>b=p∨b=u) w w'
theorem sq_ (a:Nat) (w:World) (p u:Nat) (cc:Nat × Nat) (n:Nat) (R:List Int) (hF:Flat R) (hlen:R.length=n) (hs:n≤4096) (hne:p≠u) (hP:PartX w p u cc R) (ha:a<n):
  Calls Try.prog 53 #[.pointer (some ⟨p,0,none⟩),.int .i64 a] w (ur_ w p u cc R a):=by
 obtain⟨x,hx⟩:∃ x,R[a]?=some x:=⟨R[a]'(by omega),by simp⟩
 obtain⟨m,rfl,h1,h2⟩:=hF.at_ a x hx
 refine (t8_ (vals:=[.int .i64 a]) (by decide:(225626701274425600001:Nat)≠225626701274425600002) (im_ R hF (by omega) a m hx) hne hP (fun M w G=>by simp only [RepL];exact⟨_,_,rfl,by simp only [Rep],rfl⟩)).mono ?_
 rintro e w' ⟨rfl,h3,h4⟩
 exact⟨m,rfl,hx,h2,h1,h3,h4⟩
noncomputable def E3:KeyEnc Try.prog 3 Nat where
 enc h:= .int .i64 h
 ok h:=h<4611686018427387904
 lit h:= .int .i64 h
 law:=Maps.int_keyed Try.underlying3
 key x hx:=Maps.keyOf_int_mk Try.underlying3 (WalkArith.wf_i64 (by omega))
 inj x y _ _ h:=by simp at h;omega
theorem z3_ (w:World):(zeroValue 3).run Try.prog w= .ok (.int .i64 0) w:=by kernel_rfl
def bc_ (R:List Int):Nat→List Nat
 |0=> []
 |k+1=>bc_ R k++if R[k]?=some (k:Int) then [k] else []
theorem j8_ (R:List Int):∀ k,(bc_ R k).length≤k
 |0=>by simp [bc_]
 |k+1=>by have:=j8_ R k;simp only [bc_,List.length_append];split <;> simp <;> omega
theorem ik_ (R:List Int):∀ k (j h:Nat),(bc_ R k)[j]?=some h→h<k∧R[h]?=some (h:Int)∧j=(bc_ R h).length
  |0,j,h,e=>by simp [bc_] at e
  | k + 1, j,h,e=>by
    simp only [bc_] at e
    rcases Nat.lt_or_ge j (bc_ R k).length with hj|hj
    · rw [List.getElem?_append_left hj] at e
      obtain⟨a,b,c⟩:=ik_ R k j h e
      exact⟨by omega,b,c⟩
    · rw [List.getElem?_append_right hj] at e
      split at e
      · rename_i hk
        rcases Nat.lt_or_ge (j - (bc_ R k).length) 1 with h1|h1
        · rw [show j - (bc_ R k).length=0 by omega] at e
          simp at e;subst e
          exact⟨by omega,hk,by omega⟩
        ·rw [List.getElem?_eq_none (by simpa using h1)] at e;cases e
      ·simp at e
theorem h9_ (R:List Int):∀ k (h:Nat),h<k→R[h]?=some (h:Int)→(bc_ R k)[(bc_ R h).length]?=some h
 |0,h,hk,_=>by omega
 |k+1,h,hk,hr=>by
  simp only [bc_]
  rcases Nat.lt_or_ge h k with e|e
  ·have:=h9_ R k h e hr
   rw [List.getElem?_append_left (List.getElem?_eq_some_iff.1 this).1];exact this
  ·obtain rfl:h=k:=by omega
   rw [if_pos hr,List.getElem?_append_right (Nat.le_refl _)];simp
def c5_ (R:List Int) (k:Nat):List (List Int):=(bc_ R k).map fun (h:Nat)=>cs_ R h k
theorem gz_ (R:List Int) (k:Nat):(c5_ R k).length=(bc_ R k).length:=by simp [c5_]
theorem qm_ {R:List Int} {k h:Nat} (hk:R[k]?=some (h:Int)) (hh:R[h]?=some (h:Int)) (hlt:h<k):
  c5_ R (k+1)=(c5_ R k).set (bc_ R h).length (cs_ R h k++ [(k:Int)]):=by
 have hne:¬ R[k]?=some (k:Int):=by rw [hk];intro e;have:=Option.some.inj e;omega
 refine List.ext_getElem? fun j=>?_
 simp only [c5_,bc_,if_neg hne,List.append_nil]
 by_cases e:(bc_ R h).length=j
 ·subst e
  have:=h9_ R k h hlt hh
  rw [List.getElem?_set_self (by simpa using (List.getElem?_eq_some_iff.1 this).1)]
  simp [this,cs_,hk]
 ·rw [List.getElem?_set_ne e]
  simp only [List.getElem?_map]
  cases hj:(bc_ R k)[j]? with
  |none=>rfl
  |some q=>
   obtain⟨_,_,h3⟩:=ik_ R k j q hj
   have hq:¬ (R[k]?=some (q:Int)):=by rw [hk];intro e';have:=Option.some.inj e';exact e (by rw [h3];congr 2;omega)
   simp [cs_,hq]
theorem qk_ {R:List Int} {k:Nat} (hk:R[k]?=some (k:Int)) (hR:∀ i:Nat,i<k→ ∀ r:Nat,R[i]?=some (r:Int)→r≤i):
  c5_ R (k+1)=(c5_ R k++ [[]]).set (bc_ R k).length ([]++ [(k:Int)]):=by
 have hb:∀ m,m≤k→cs_ R k m=[]:=by
  intro m
  induction m with
  |zero=>intros;rfl
  |succ m ih=>
   intro hm
   simp only [cs_]
   rw [ih (by omega),if_neg];rfl
   intro e
   have:=hR m (by omega) k e
   omega
 refine List.ext_getElem? fun j=>?_
 simp only [c5_,bc_,if_pos hk,List.map_append,List.map_cons,List.map_nil]
 rcases Nat.lt_trichotomy j (bc_ R k).length with e|e|e
 ·rw [List.getElem?_set_ne (by omega),List.getElem?_append_left (by simpa using e),List.getElem?_append_left (by simpa using e)]
  simp only [List.getElem?_map]
  cases hj:(bc_ R k)[j]? with
  |none=>rfl
  |some q=>
   obtain⟨h1,_,_⟩:=ik_ R k j q hj
   have hq:¬ (R[k]?=some (q:Int)):=by rw [hk];intro e';have:=Option.some.inj e';omega
   simp [cs_,hq]
 ·subst e
  rw [List.getElem?_set_self (by simp),List.getElem?_append_right (by simp)]
  simp [cs_,hb k (Nat.le_refl _),hk]
 ·rw [List.getElem?_set_ne (by omega),List.getElem?_eq_none (by simp;omega),List.getElem?_eq_none (by simp;omega)]
def nf_ (w:World) (p u:Nat) (cc:Nat × Nat) (n:Nat) (R:List Int) (e:Ending) (w':World):Prop:=
 ∃ v vs,e= .returned v∧OwnL w.heap.size 22 3 w' v vs (c5_ R n)∧PartX w' p u cc R∧Mut (fun b=>b=p∨b=u) w w'
def ck_ (R:List Int) (k:Nat):Nat→Option Int:=fun h=>if h<k∧R[h]?=some (h:Int) then some ((bc_ R h).length:Int) else none
structure BlkS (mb n:Nat) (f:Nat→Option Int) (g j:Nat) (v:Value) (w:World):Prop where
 h1:bh_ E3 3 w mb n f
 h2:w.cell? ⟨g,j,none⟩=some v
theorem nt_ {R:List Int} {k:Nat} (hk:R[k]?=some (k:Int)):(fun y=>if y=k then some ((bc_ R k).length:Int) else ck_ R k y)=ck_ R (k+1):=by
 funext y
 unfold ck_
 by_cases e:y=k
 ·subst e;simp [hk]
 ·rw [if_neg e]
  by_cases h:y<k∧R[y]?=some (y:Int)
  ·rw [if_pos h,if_pos ⟨by omega,h.2⟩]
  ·rw [if_neg h,if_neg (fun h'=>h ⟨by omega,h'.2⟩)]
theorem np_ {R:List Int} {k h:Nat} (hk:R[k]?=some (h:Int)) (hlt:h<k):ck_ R k=ck_ R (k+1):=by
 funext y
 unfold ck_
 by_cases e:y<k∧R[y]?=some (y:Int)
 ·rw [if_pos e,if_pos ⟨by omega,e.2⟩]
 ·rw [if_neg e,if_neg]
  intro h'
  refine e ⟨?_,h'.2⟩
  rcases Nat.lt_or_ge y k with h1|h1
  ·exact h1
  ·obtain rfl:y=k:=by omega
   have:=h'.2
   rw [hk] at this
   have:=Option.some.inj this
   omega
theorem cl_ {w:World} {B:Nat} {e:TypeId} {v:Value} {cs:List Value} (h:w.ownsRow B e 1 v cs.length cs):∃ a c,v= .slice a cs.length c:=by
 rcases h.2 with⟨rfl,hl⟩| ⟨g,cap,cur,rfl,_⟩
 ·exact⟨none,0,by rw [hl]⟩
 ·exact⟨_,_,rfl⟩
theorem dy_ {w:World} {B:Nat} {e:TypeId} {a:Option Addr} {n c:Nat} {cs:List Value} (h:w.ownsRow B e 1 (.slice a n c) cs.length cs) (hpos:0<cs.length):
  ∃ g,a=some ⟨g,0,none⟩∧(∀ (j:Nat) u,cs[j]?=some u→w.cell? ⟨g,j,none⟩=some u)∧ ∀ j,w.frozen? ⟨g,j,none⟩=false:=by
 rcases h.2 with⟨h0,hl⟩| ⟨g,cap,cur,h0,_,hh,h1,_,h3,h4⟩
 ·omega
 ·simp only [Value.slice.injEq] at h0
  refine⟨g,h0.1,fun j u hj=>?_,fun j=>by simp [World.frozen?,hh]⟩
  have hj':j<cs.length:=(List.getElem?_eq_some_iff.1 hj).1
  have h5:(cur.toList.take (cs.length*1))[j]?=some u:=by rw [h4];exact hj
  rw [List.getElem?_take,if_pos (by omega)] at h5
  simp only [World.cell?,hh]
  simpa using h5
theorem bh_.not_cells {P:Program} {k e:TypeId} {κ:Type} {E:KeyEnc P k κ} {w:World} {b n:Nat} {f:κ→Option Int} (h:bh_ E e w b n f):∀ c q r,w.heap[b]?≠some (.cells c q r):=by
 obtain⟨D,⟨es,clock,h1,_⟩,_⟩:=h
 intro c q r e;rw [h1] at e;cases e
set_option maxHeartbeats 4000000 in
theorem q9_ (w:World) (p u:Nat) (cc:Nat × Nat) (n:Nat) (R:List Int) (hF:Flat R) (hlen:R.length=n) (hn:n≤4096) (hne:p≠u) (hP:PartX w p u cc R):Calls Try.prog 87 #[.pointer (some ⟨p,0,none⟩)] w (nf_ w p u cc n R):=by
 have hult:=hP.ult
 have hplt:=hP.plt
 have hmm:= @run_makeMap Try.prog
 have hRle:∀ i:Nat,i<n→ ∀ r:Nat,R[i]?=some (r:Int)→r≤i:=fun i hi r hr=>by
  obtain⟨m,h1,h2,_⟩:=hF.at_ i _ hr
  omega
 replace hRle:=Lib.hid hRle
 replace hF:=Lib.hid hF
 replace hP:=Lib.hid hP
 go_enter Try.func87,Try.ntmps87
 go_wp2_with fail
 refine (uf_ _ p u cc n R hlen hn (by exact hP.out.mut ((Mut.refl (fun _=>False) w).alloc _) (by simp) (by simp))).mono ?_
 rintro e w1 ⟨rfl,rfl⟩
 go_wp2
 go_loopw [3,10] (fun o i wr=> ∃ (k:Nat) (vs:List Value) (m:Nat),k≤n∧i= .int .i64 k∧m≤k∧OwnL w.heap.size 22 3 wr o vs (c5_ R k)∧bh_ E3 3 wr w.heap.size m (ck_ R k)∧PartX wr p u cc R∧Mut (fun b=>b=p∨b=u) w wr) (fun _ i _=>n - (intOf i).toNat)
 case atStart=>
  refine⟨0,[],0,by omega,rfl,by omega,OwnL.nil _ _ _ _,?_,hP.out.mut ((Mut.refl (fun _=>False) w).alloc _) (by simp) (by simp),(Mut.refl _ _).alloc _⟩
  have:=bh_.made (E:=E3) (e:=3) w
  have e0:(fun _=>none)=ck_ R 0:=by funext y;simp [ck_]
  rw [e0] at this
  exact this
 case round  =>
  obtain⟨k,vs,m,hk,rfl,hmk,hO,hMp,hP1,hm⟩:=hrel
  clear hP
  have hsz:=hm.size
  by_cases hlt:k<n
  ·replace   hO:=Lib.hid hO
   replace hMp:=Lib.hid hMp
   replace hP1:=Lib.hid hP1
   replace hm:=Lib.hid hm
   go_wp2_with fail
   refine (sq_ k _ p u cc n R hF.out hlen hn hne hP1.out hlt).mono ?_
   rintro e w2 ⟨r,rfl,hr,hrr,hrk,hP2,hm2⟩
   have hO2:=hO.out.mut hm2 (fun b hb e=>by omega)
   have hMp2:=hMp.out.mut hm2 (by omega)
   have hM2:=hm.out.trans hm2
   have hsz2:=hM2.size
   obtain⟨oa,oc,rfl⟩:=cl_ hO2.own
   have hvl:=hO2.len
   rw [gz_] at hvl
   have hhl:=j8_ R k
   have hvk:vs.length≤k:=by omega
   replace hvl:=Lib.hid hvl
   clear hO hMp hP1 hm hm2
   rcases Nat.lt_or_ge r k with hrlt|hrge
   ·
        have ht:((r:Int) == (k:Int))=false:=by simp;omega
        obtain⟨j,hj⟩:∃ j,j=(bc_ R r).length:=⟨_,rfl⟩
        have hidx:=h9_ R k r hrlt hrr
        rw [← hj] at hidx
        obtain⟨uj,huj⟩:∃ uj,vs[j]?=some uj:=⟨_,List.getElem?_eq_getElem (by rw [hvl.out];exact (List.getElem?_eq_some_iff.1 hidx).1)⟩
        have hpos:0<vs.length:=by have:=(List.getElem?_eq_some_iff.1 huj).1;omega
        obtain⟨g,rfl,hcells,hfrz⟩:=dy_ hO2.own hpos
        obtain⟨row,hrow⟩:∃ row,row=cs_ R r k:=⟨_,rfl⟩
        have hrj:(c5_ R k)[j]?=some row:=by simp [c5_,hidx,hrow]
        have hrl:row.length≤k:=by rw [hrow];exact jf_ R r k
        have hf:=Lib.hid (show ck_ R k r=some (j:Int) by simp [ck_,hrlt,hrr,hj])
        have hok:=Lib.hid (show E3.ok r from by show r<4611686018427387904;omega)
        have hnext:=qm_ hr hrr hrlt
        rw [← hj,← hrow] at hnext
        replace hnext:=Lib.hid hnext
        have hmapn:=Lib.hid (np_ hr hrlt)
        replace hj:=Lib.hid hj
        replace hrow:=Lib.hid hrow
        have hMap:=Lib.hid hMp2
        have hOw:=Lib.hid hO2
        replace hP2:=Lib.hid hP2
        replace hM2:=Lib.hid hM2
        obtain⟨vs1,hv1⟩:∃ vs1,vs1=vs:=⟨_,rfl⟩
        obtain⟨m1,hm1⟩:∃ m1,m1=m:=⟨_,rfl⟩
        subst hv1 hm1
        obtain⟨w3,hw3⟩:∃ w3,w3=w2:=⟨_,rfl⟩
        subst hw3
        generalize hff:ck_ R k=f at*
        replace hff:=Lib.hid hff
        clear hr hrr hidx hMp2 hO2
        go_wp2
        have hjl:j<vs1.length:=(List.getElem?_eq_some_iff.1 huj).1
        have hcell:w3.cell? ⟨g,j,none⟩=some uj:=hcells _ _ huj
        have hrowlen:row.length<1099511627776:=by omega
        have hS:=Lib.hid (show BlkS w.heap.size m1 f g j uj w3.drew from⟨hMap.out.mut ((Mut.refl (fun _=>False) w3).drew) (by simp),by simpa using hcell⟩)
        have hne:=Cls.ne hS.out
        refine sn_ (BlkS w.heap.size m1 f g j uj) [0,1,2,3,4,5,6,7,8,9,10,11,12] [([0,1,2,3,4,5,6,7,8,9,10],some 11),([],some 12)] [13,14] (by kernel_rfl) (by kernel_rfl) ?_
        refine⟨Of.mk hS.out,?_⟩
        simp only [wpPlan,c9_,fz_,List.getElem?_cons_zero,List.getElem?_cons_succ,dr_]
        have s1:∀ x:Cls (BlkS w.heap.size m1 f g j uj),(Instr.lookup 156 (.map (some w.heap.size)) (.int .i64 r) false).run Try.prog x.w= .ok (.int .i64 (j:Nat)) x.w:=
         fun x=>x.ok.h1.look Try.underlying156 Try.underlying3 z3_ (x:=r) hok.out hf.out
        have s2:=fun x:Cls (BlkS w.heap.size m1 f g j uj)=>x.ok.h2
        repeat (go_big_quiet_step (fail))
        refine wpQuiet_nil ?_
        clear s1 s2 hne
        go_wp2
        have hS3:=Lib.hid (show BlkS w.heap.size m1 f g j uj (w3.drew.alloc (.cells #[.int .i64 (k:Nat)] 3)) from
         ⟨hMap.out.mut (((Mut.refl (fun _=>False) w3).drew).alloc _) (by simp),((((Mut.refl (fun _=>False) w3).drew).alloc _).cell hcell (by simp))⟩)
        refine⟨fun _=>Of.mk hS3.out,Of.mk hS3.out,wpQuiet_nil ?_⟩
        have hOw3:=hOw.out.mut (((Mut.refl (fun _=>False) w3).drew).alloc (.cells #[.int .i64 (k:Nat)] 3)) (by simp)
        have hrown:=hOw3.rows j row uj hrj huj
        replace hOw3:=Lib.hid hOw3
        go_wp2_with (at_builtin;refine f6_ rfl _ _ 22 rfl Try.underlying22 nf3 rfl uj (row.map (Value.int .i64)) (.int .i64 (k:Nat)) rfl hrown _ rfl (by exact i2_ _ _ _) rfl (by simp;omega) (by decide) (by simp;omega) ?_;intro u1 w5 ho5 hg5 hb5)
        obtain⟨ua,un,uc,rfl⟩:∃ a n c,u1= .slice a n c:=by obtain⟨a,c,h⟩:=cl_ ho5;exact⟨_,_,_,h⟩
        have hS5:=Lib.hid (show BlkS w.heap.size m1 f g j uj w5 from by
         refine⟨hS3.out.h1.mut (((Mut.refl (fun k=>uj.ownBlock=some k) _)).grown hg5 (fun k hk _=>hk)) (fun e=>?_),hg5.cell hS3.out.h2 (fun e=>hOw3.out.sepo j uj g huj e.symm rfl)⟩
         obtain⟨_,cur,hc⟩:=bp_ hrown e
         exact bh_.not_cells hS3.out.h1 _ _ _ hc)
        refine⟨fun _=>Of.mk hS5.out,?_⟩
        have hc5:=hS5.out.h2
        have hf5:w5.frozen? ⟨g,j,none⟩=false:=by
         have hx:=hOw3.out.own.kept hg5 (.inr (fun e=>hOw3.out.sepo j uj g huj (by rw [← e];rfl) rfl))
         obtain⟨g',h1,_,h3⟩:=dy_ hx (by omega)
         simp only [Option.some.injEq,Addr.mk.injEq,and_true] at h1
         rw [h1];exact h3 _
        have hOn:=hOw3.out.push_row hrj huj ho5 hg5 hb5 rfl _ rfl
        have hMn:Mut (fun _=>False) w (w5.setCell ⟨g,j,none⟩ (.slice ua un uc))∨True:= .inr trivial
        clear hMn
        have hgB:w.heap.size≤g:=(hOw3.out.own.lt g rfl).1
        have hM5:Mut (fun b=>b=p∨b=u) w (w5.setCell ⟨g,j,none⟩ (.slice ua un uc)):=
         (((hM2.out.drew).alloc (.cells #[.int .i64 (k:Nat)] 3)).grown hg5 (fun q hq h=>by have:=(hrown.lt q hq).1;omega)).setCell (p:=⟨g,j,none⟩) (fun h=>by simp at h;omega) _
        have hP5:PartX (w5.setCell ⟨g,j,none⟩ (.slice ua un uc)) p u cc R:=by
         refine hP2.out.mut (S:=fun q=>w.heap.size≤q) (((((Mut.refl _ w3).drew).alloc (.cells #[.int .i64 (k:Nat)] 3)).grown hg5 (fun q hq h=>(hrown.lt q hq).1)).setCell (p:=⟨g,j,none⟩) (fun _=>hgB) _) ?_ (by omega)
         have:=hplt;omega
        have hmp5:bh_ E3 3 (w5.setCell ⟨g,j,none⟩ (.slice ua un uc)) w.heap.size m1 f:=by
         refine hS5.out.h1.mut ((Mut.refl (· =g) w5).setCell (p:=⟨g,j,none⟩) (fun _=>rfl) _) (fun e=>?_)
         obtain⟨_,cur,hc⟩:=bp_ (g:=g) (hOw3.out.own) rfl
         rw [← e] at hc
         exact bh_.not_cells hS3.out.h1 _ _ _ hc
        rw [← hnext.out] at hOn
        have H:=Lib.hid (And.intro hOn (And.intro hmp5 (And.intro hP5 hM5)))
        clear hOn hmp5 hP5 hM5 ho5 hg5 hb5 hrown
        go_wp2
        refine NoPanic.normal ?_
        go_wp2
        go_roundw
        case rel=>exact⟨k+1,_,m1,by omega,by go_num,by omega,H.out.1,by rw [← hmapn.out];exact H.out.2.1,H.out.2.2.1,H.out.2.2.2⟩
        case measure=>simp [intOf];omega
   ·
        obtain rfl:r=k:=by omega
        have ht:((r:Int) == (r:Int))=true:=by simp
        have hok:=Lib.hid (show E3.ok r from by show r<4611686018427387904;omega)
        have hMpn:=nt_ hrr
        have hnext:=qk_ hrr (fun i hi q hq=>hRle.out i (by omega) q hq)
        have hvleq:=hvl.out
        replace hnext:=Lib.hid hnext
        replace hP2:=Lib.hid hP2
        replace hM2:=Lib.hid hM2
        replace hrr:=Lib.hid hrr
        replace hvleq:=Lib.hid hvleq
        have hO2':=Lib.hid hO2
        have hMp2':=Lib.hid hMp2
        have hwf:(Lit.int .i64 (vs.length:Int)).wf=true:=WalkArith.wf_i64 (by omega)
        replace hwf:=Lib.hid hwf
        replace hMpn:=Lib.hid hMpn
        clear hr hO2 hMp2
        go_wp2_with (first
         |(at_mapUpdate;refine kz_ (E:=E3) Try.underlying156 Try.underlying3 rfl _ _ _ rfl r (vs.length:Int) hMp2'.out rfl rfl rfl hok.out hwf.out (by unfold maxLen;omega) ?_;intro w2b hMpb hMb;have hOb:=Lib.hid ((hO2'.out.mut hMb (fun b _ e=>by rw [e];exact bh_.not_cells hMp2'.out)).mut ((Mut.refl (fun _=>False) w2b).alloc (.cells #[.slice none 0 0] 22)) (by simp));replace hMpb:=Lib.hid hMpb;have hszb:=hMb.size;replace hMb:=Lib.hid hMb)
         |(at_builtin;refine f6_ rfl _ _ 24 rfl Try.underlying24 nf22 rfl _ vs (.slice none 0 0) rfl hOb.out.own _ rfl (by exact i2_ _ _ _) rfl (by omega) (by decide) (by simp;omega) ?_;intro v3 w3 ho3 hg3 hb3))
        have hOw:=Lib.hid (hOb.out.push_nil ho3 hg3 hb3)
        obtain⟨oa3,oc3,rfl⟩:=cl_ ho3
        obtain⟨g,rfl,hcells,hfrz⟩:=dy_ ho3 (by simp)
        have hgrow3:Mut (fun k=>w.heap.size<k) w2b w3:=((Mut.refl _ w2b).alloc (.cells #[.slice none 0 0] 22)).grown hg3 (fun q hq _=>by
         have h1:=(hOb.out.own.lt q hq).1
         rcases Nat.lt_or_ge w.heap.size q with h2|h2
         ·exact h2
         ·  obtain⟨_,cur,hc⟩:=bp_ hOb.out.own hq
            have:q=w.heap.size:=by omega
            rw [this] at hc
            exact absurd hc (bh_.not_cells (hMpb.out.mut ((Mut.refl (fun _=>False) w2b).alloc (.cells #[.slice none 0 0] 22)) (by simp)) _ _ _))
        have hMap:=Lib.hid (hMpb.out.mut hgrow3 (by omega))
        have hM2':Mut (fun b=>b=p∨b=u) w w3:=(hM2.out.trans' hMb.out (fun i hi e=>by omega)).trans' hgrow3 (fun i hi e=>by omega)
        have hP2':PartX w3 p u cc R:=(hP2.out.mut hMb.out (by omega) (by omega)).mut hgrow3 (by omega) (by omega)
        clear hP2 hM2
        have hP2:=Lib.hid hP2'
        have hM2:=Lib.hid hM2'
        have hsz3:=hM2'.size
        clear hP2' hM2'
        obtain⟨j,hj⟩:∃ j,j=vs.length:=⟨_,rfl⟩
        obtain⟨uj,huj0⟩:∃ uj:Value,uj= .slice none 0 0:=⟨_,rfl⟩
        have huj:(vs++ [Value.slice none 0 0])[j]?=some uj:=by rw [hj,huj0];simp
        have hvs1:(vs++ [Value.slice none 0 0]).length≤5000:=by simp;omega
        obtain⟨row,hrow⟩:∃ row:List Int,row=[]:=⟨_,rfl⟩
        have hrj:(c5_ R r++ [[]])[j]?=some row:=by rw [hj,hvleq.out,hrow,← gz_];simp
        have hrl:row.length≤r:=by rw [hrow];simp
        have hnext':c5_ R (r+1)=(c5_ R r++ [[]]).set j (row++ [(r:Int)]):=by rw [hnext.out,hj,hvleq.out,hrow]
        clear hnext
        have hnext:=Lib.hid hnext'
        clear hnext'
        have hMpn':=hMpn.out
        rw [← hvleq.out] at hMpn'
        have hf:=Lib.hid (show (fun y=>if y=r then some (vs.length:Int) else ck_ R r y) r=some (j:Int) by simp [hj])
        generalize hff:(fun y=>if y=r then some (vs.length:Int) else ck_ R r y)=f at*
        replace hff:=Lib.hid hff
        generalize hvs2:vs++ [Value.slice none 0 0]=vs1 at*
        replace hvs2:=Lib.hid hvs2
        generalize hrs2:c5_ R r++ [[]]=rss at*
        replace hrs2:=Lib.hid hrs2
        replace hMpn:=Lib.hid hMpn'
        clear hMpn'
        replace hj:=Lib.hid hj
        replace huj0:=Lib.hid huj0
        replace hrow:=Lib.hid hrow
        replace hfrz:=Lib.hid hfrz
        obtain⟨m1,hm1⟩:∃ m1,m1=m+1:=⟨_,rfl⟩
        rw [← hm1] at hMap
        have hm1k:m1≤r+1:=by omega
        clear hm1
        clear ho3 hg3 hb3 hgrow3 hMpb hMb hOb hO2' hMp2'
        have hjl:j<vs1.length:=(List.getElem?_eq_some_iff.1 huj).1
        have hcell:w3.cell? ⟨g,j,none⟩=some uj:=hcells _ _ huj
        have hrowlen:row.length<1099511627776:=by omega
        have hS:=Lib.hid (show BlkS w.heap.size m1 f g j uj w3.drew from⟨hMap.out.mut ((Mut.refl (fun _=>False) w3).drew) (by simp),by simpa using hcell⟩)
        have hne:=Cls.ne hS.out
        refine sn_ (BlkS w.heap.size m1 f g j uj) [0,1,2,3,4,5,6,7,8,9,10,11,12] [([0,1,2,3,4,5,6,7,8,9,10],some 11),([],some 12)] [13,14] (by kernel_rfl) (by kernel_rfl) ?_
        refine⟨Of.mk hS.out,?_⟩
        simp only [wpPlan,c9_,fz_,List.getElem?_cons_zero,List.getElem?_cons_succ,dr_]
        have s1:∀ x:Cls (BlkS w.heap.size m1 f g j uj),(Instr.lookup 156 (.map (some w.heap.size)) (.int .i64 r) false).run Try.prog x.w= .ok (.int .i64 (j:Nat)) x.w:=
         fun x=>x.ok.h1.look Try.underlying156 Try.underlying3 z3_ (x:=r) hok.out hf.out
        have s2:=fun x:Cls (BlkS w.heap.size m1 f g j uj)=>x.ok.h2
        repeat (go_big_quiet_step (fail))
        refine wpQuiet_nil ?_
        clear s1 s2 hne
        go_wp2
        have hS3:=Lib.hid (show BlkS w.heap.size m1 f g j uj (w3.drew.alloc (.cells #[.int .i64 (r:Nat)] 3)) from
         ⟨hMap.out.mut (((Mut.refl (fun _=>False) w3).drew).alloc _) (by simp),((((Mut.refl (fun _=>False) w3).drew).alloc _).cell hcell (by simp))⟩)
        refine⟨fun _=>Of.mk hS3.out,Of.mk hS3.out,wpQuiet_nil ?_⟩
        have hOw3:=hOw.out.mut (((Mut.refl (fun _=>False) w3).drew).alloc (.cells #[.int .i64 (r:Nat)] 3)) (by simp)
        have hrown:=hOw3.rows j row uj hrj huj
        replace hOw3:=Lib.hid hOw3
        go_wp2_with (at_builtin;refine f6_ rfl _ _ 22 rfl Try.underlying22 nf3 rfl uj (row.map (Value.int .i64)) (.int .i64 (r:Nat)) rfl hrown _ rfl (by exact i2_ _ _ _) rfl (by simp;omega) (by decide) (by simp;omega) ?_;intro u1 w5 ho5 hg5 hb5)
        obtain⟨ua,un,uc,rfl⟩:∃ a n c,u1= .slice a n c:=by obtain⟨a,c,h⟩:=cl_ ho5;exact⟨_,_,_,h⟩
        have hS5:=Lib.hid (show BlkS w.heap.size m1 f g j uj w5 from by
         refine⟨hS3.out.h1.mut (((Mut.refl (fun k=>uj.ownBlock=some k) _)).grown hg5 (fun k hk _=>hk)) (fun e=>?_),hg5.cell hS3.out.h2 (fun e=>hOw3.out.sepo j uj g huj e.symm rfl)⟩
         obtain⟨_,cur,hc⟩:=bp_ hrown e
         exact bh_.not_cells hS3.out.h1 _ _ _ hc)
        refine⟨fun _=>Of.mk hS5.out,?_⟩
        have hc5:=hS5.out.h2
        have hf5:w5.frozen? ⟨g,j,none⟩=false:=by
         have hx:=hOw3.out.own.kept hg5 (.inr (fun e=>hOw3.out.sepo j uj g huj (by rw [← e];rfl) rfl))
         obtain⟨g',h1,_,h3⟩:=dy_ hx (by omega)
         simp only [Option.some.injEq,Addr.mk.injEq,and_true] at h1
         rw [h1];exact h3 _
        have hOn:=hOw3.out.push_row hrj huj ho5 hg5 hb5 rfl _ rfl
        have hMn:Mut (fun _=>False) w (w5.setCell ⟨g,j,none⟩ (.slice ua un uc))∨True:= .inr trivial
        clear hMn
        have hgB:w.heap.size≤g:=(hOw3.out.own.lt g rfl).1
        have hM5:Mut (fun b=>b=p∨b=u) w (w5.setCell ⟨g,j,none⟩ (.slice ua un uc)):=
         (((hM2.out.drew).alloc (.cells #[.int .i64 (r:Nat)] 3)).grown hg5 (fun q hq h=>by have:=(hrown.lt q hq).1;omega)).setCell (p:=⟨g,j,none⟩) (fun h=>by simp at h;omega) _
        have hP5:PartX (w5.setCell ⟨g,j,none⟩ (.slice ua un uc)) p u cc R:=by
         refine hP2.out.mut (S:=fun q=>w.heap.size≤q) (((((Mut.refl _ w3).drew).alloc (.cells #[.int .i64 (r:Nat)] 3)).grown hg5 (fun q hq h=>(hrown.lt q hq).1)).setCell (p:=⟨g,j,none⟩) (fun _=>hgB) _) ?_ (by omega)
         have:=hplt;omega
        have hmp5:bh_ E3 3 (w5.setCell ⟨g,j,none⟩ (.slice ua un uc)) w.heap.size m1 f:=by
         refine hS5.out.h1.mut ((Mut.refl (· =g) w5).setCell (p:=⟨g,j,none⟩) (fun _=>rfl) _) (fun e=>?_)
         obtain⟨_,cur,hc⟩:=bp_ (g:=g) (hOw3.out.own) rfl
         rw [← e] at hc
         exact bh_.not_cells hS3.out.h1 _ _ _ hc
        rw [← hnext.out] at hOn
        have H:=Lib.hid (And.intro hOn (And.intro hmp5 (And.intro hP5 hM5)))
        clear hOn hmp5 hP5 hM5 ho5 hg5 hb5 hrown
        go_wp2
        refine NoPanic.normal ?_
        go_wp2
        go_roundw
        case rel=>exact⟨r+1,_,m1,by omega,by go_num,by omega,H.out.1,by rw [← hMpn.out];exact H.out.2.1,H.out.2.2.1,H.out.2.2.2⟩
        case measure=>simp [intOf];omega
  ·obtain rfl:k=n:=by omega
   have H:=Lib.hid (show nf_ w p u cc k R (.returned u3) wr from⟨u3,vs,rfl,hO,hP1,hm⟩)
   clear hO hMp hP1 hm
   go_wp2
   go_ret
   exact H.out
theorem l7_ (R:List Int):∀ k,k≤R.length→(bc_ R k).length=((List.range k).filter fun (a:Nat)=>decide (R.getD a 0=(a:Int))).length
 |0,_=>by simp [bc_]
 |k+1,h=>by
  have ih:=l7_ R k (by omega)
  obtain⟨x,hx⟩:∃ x,R[k]?=some x:=⟨R[k]'(by omega),by simp⟩
  have hg:R.getD k 0=x:=by simp [List.getD,hx]
  rw [List.range_succ,List.filter_append,List.length_append,← ih]
  simp only [bc_,List.length_append,hx,Option.some.injEq,List.filter_cons,List.filter_nil,hg]
  by_cases e:x=(k:Int)
  ·simp [e]
  ·simp [e]
theorem zo_ (w:World) (p u:Nat) (cc:Nat × Nat) (R:List Int) (hF:Flat R) (hn:R.length≤4096) (hne:p≠u) (hP:PartX w p u cc R):Calls Try.prog 46 #[.pointer (some ⟨p,0,none⟩)] w (fun e w'=>e= .returned (.int .i64 ((nbU R:Nat):Int))∧PartX w' p u cc R∧Mut (fun b=>b=p∨b=u) w w'):=by
 have hnb:(c5_ R R.length).length=nbU R:=by rw [gz_,l7_ R _ (Nat.le_refl _)];rfl
 have hnl:=wu_ R
 have hbl:=q9_ w p u cc _ R hF rfl hn hne hP
 generalize nbU R=m at*
 replace hbl:=Lib.hid hbl
 clear hP hF
 go_enter Try.func46,Try.ntmps46
 go_wp2_with fail
 refine hbl.out.mono ?_
 rintro e w1 ⟨v,vs,rfl,h1,h2,h3⟩
 have hl:=h1.len
 rw [hnb] at hl
 obtain⟨oa,oc,rfl⟩:=cl_ h1.own
 clear h1
 replace h2:=Lib.hid h2
 replace h3:=Lib.hid h3
 rw [hl]
 clear hl hnb
 go_wp2
 go_ret
 exact⟨rfl,h2.out,h3.out⟩
theorem aeh (U:List Int) (hF:Flat U) (hpos:0<U.length) (hn:U.length≤4096):DLend Try.prog 46 [.ref 225626701274425600001 0] [(225626701274425600001,some (.box [.own 225626701274425600002 U.length])),(225626701274425600002,some (.row 3 1 U.length (U.map fun x=>D.flat (.int .i64 x))))] [(225626701274425600001,some (.box [.own 225626701274425600002 U.length])),(225626701274425600002,some (.row 3 1 U.length (U.map fun x=>D.flat (.int .i64 x))))] (.flat (.int .i64 ((nbU U:Nat):Int))):=
 rq_ (by decide) hpos fun w p u c hne hP=>zo_ w p u c U hF hn hne hP
end Go.Proofs.Ytichhfbkhnimmaa
