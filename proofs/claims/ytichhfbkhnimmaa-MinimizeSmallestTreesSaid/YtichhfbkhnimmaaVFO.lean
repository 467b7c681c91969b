/- Classes. No condition. -/
import Derived.Test.YtichhfbkhnimmaaVE3
import Derived.Test.YtichhfbkhnimmaaVKD
import Derived.Laws.IdiomCopy
import Derived.Test.YtichhfbkhnimmaaVDA
import Derived.Test.YtichhfbkhnimmaaVEC4
import Derived.Test.YtichhfbkhnimmaaVBG
import Derived.Test.YtichhfbkhnimmaaVPA
set_option linter.unusedSimpArgs false
set_option linter.unusedVariables false
set_option maxHeartbeats 4000000
set_option maxRecDepth 8000
namespace Go.Proofs.Ytichhfbkhnimmaa
open Go Go.RowKit Go.PP Go.Dm Go.Rt Go.Mn
theorem qf_ (A:Au) (hk:chk A=0):
  DLend Try.prog 13 [auD A] [(225626701274425600001,none),(225626701274425600002,none)] [(225626701274425600001,some (.box [.own 225626701274425600002 A.f.length])),(225626701274425600002,some (.row 3 1 A.f.length ((clsU A).map fun x=>D.flat (.int .i64 x))))] (.tup [.ref 225626701274425600001 0,.flat (.int .i64 0)]):=by
 have hc:=fy_ A (bj_ (a6_ hk))
 rw [hk] at hc
 have hcl:=mm_ A hk
 have hp:=ab_ (clsU A)
 have q1:=ab_ A.r
 have q2:=al_ A.f
 have q3:=ao_ A.to
 rw [a1_] at*
 generalize (A.r.map fun x=>D.flat (.int .i64 x))=LR at*
 generalize (A.f.map fun x=>D.flat (.bool x))=LB at*
 generalize aj_ A.to=LT at*
 generalize ((clsU A).map fun x=>D.flat (.int .i64 x))=LU at*
 refine DLend.enterA Try.func13 Try.ntmps13 ?_
 refine DW.walk ?_
 exact⟨.inr rfl,ResL.twoA⟩
end Go.Proofs.Ytichhfbkhnimmaa
namespace Go.Proofs.Ytichhfbkhnimmaa
open Go Go.RowKit Go.PP Go.Dm Go.Rt Go.Mn
def fw_ (A:Au) (s:Nat):Bool:=decide ((s:Int)∈ad_ A) && (List.range s).all fun (r:Nat)=>!decide ((r:Int)∈ad_ A) || !decide (clsA A r=clsA A s)
def a8_ (A:Au) (j:Nat):List Int:=((List.range j).filter (fw_ A)).map fun (s:Nat)=>(s:Int)
theorem i0_ (A:Au):a8_ A A.f.length=af_ A:=rfl
theorem fj_ (A:Au) (j:Nat):a8_ A (j+1)=a8_ A j++(if fw_ A j then [(j:Int)] else []):=by
 unfold a8_
 rw [List.range_succ,List.filter_append,List.map_append]
 congr 1
 by_cases h:fw_ A j <;> simp [h]
theorem dn_ {A:Au} {j:Nat} {x:Int}:x∈a8_ A j↔ ∃ s:Nat,x=s∧s<j∧fw_ A s=true:=by
 unfold a8_
 rw [List.mem_map]
 constructor
 ·rintro⟨s,hs,rfl⟩
  rw [List.mem_filter,List.mem_range] at hs
  exact⟨s,rfl,hs.1,hs.2⟩
 ·rintro⟨s,rfl,h1,h2⟩
  exact⟨s,List.mem_filter.2 ⟨List.mem_range.2 h1,h2⟩,rfl⟩
theorem e7_ {A:Au} {s:Nat}:fw_ A s=true↔(s:Int)∈ad_ A∧ ∀ r:Nat,r<s→(r:Int)∈ad_ A→clsA A r≠clsA A s:=by
 unfold fw_
 rw [Bool.and_eq_true,decide_eq_true_iff,List.all_eq_true]
 constructor
 ·rintro⟨h1,h2⟩
  refine⟨h1,fun r hr hf e=>?_⟩
  have:=h2 r (List.mem_range.2 hr)
  rw [decide_eq_true hf,decide_eq_true e] at this
  cases this
 ·rintro⟨h1,h2⟩
  refine⟨h1,fun r hr=>?_⟩
  rw [List.mem_range] at hr
  by_cases hf:(r:Int)∈ad_ A
  ·rw [decide_eq_true hf,decide_eq_false (h2 r hr hf)];rfl
  ·rw [decide_eq_false hf];rfl
theorem na_ {A:Au}:∀ (m:Nat),(m:Int)∈ad_ A→ ∃ q∈a8_ A (m+1),clsI A q=clsA A m:=by
 intro m
 induction m using Nat.strongRecOn with
 |_ m ih=>
  intro hf
  by_cases hr:∀ r:Nat,r<m→(r:Int)∈ad_ A→clsA A r≠clsA A m
  ·exact⟨m,dn_.2 ⟨m,rfl,by omega,e7_.2 ⟨hf,hr⟩⟩,rfl⟩
  · obtain⟨r,h1⟩:=Classical.not_forall.1 hr
    obtain⟨h1,h2⟩:=Classical.not_imp.1 h1
    obtain⟨h2,h3⟩:=Classical.not_imp.1 h2
    have h3:=Classical.not_not.1 h3
    obtain⟨q,q1,q2⟩:=ih r h1 h2
    obtain⟨s,rfl,q3,q4⟩:=dn_.1 q1
    exact⟨s,dn_.2 ⟨s,rfl,by omega,q4⟩,q2.trans h3⟩
theorem kw_ {A:Au} {j:Nat} (hf:(j:Int)∈ad_ A):fw_ A j=true↔clsA A j ∉ (a8_ A j).map (clsI A):=by
 constructor
 ·intro h hm
  obtain⟨x,hx,e⟩:=List.mem_map.1 hm
  obtain⟨s,rfl,h1,h2⟩:=dn_.1 hx
  exact (e7_.1 h).2 s h1 (e7_.1 h2).1 e
 ·intro h
  refine e7_.2 ⟨hf,fun r hr hrf e=>h ?_⟩
  obtain⟨q,q1,q2⟩:=na_ r hrf
  obtain⟨s,rfl,q3,q4⟩:=dn_.1 q1
  exact List.mem_map.2 ⟨s,dn_.2 ⟨s,rfl,by omega,q4⟩,q2.trans e⟩
theorem nd_ (A:Au) {j n:Nat} (h:j≤n):a8_ A j <+: a8_ A n:=by
 induction h with
 |refl=>exact List.prefix_refl _
 |step _ ih=>exact ih.trans (by rw [fj_];exact List.prefix_append ..)
theorem vu_ {A:Au} (hok:AuOk A) {j:Nat} (h:j≤A.f.length):((a8_ A j).map (clsI A)).Nodup:=by
 have h1:=(cx_ hok).nd
 rw [← i0_] at h1
 exact h1.sublist ((nd_ A h).map _).sublist
theorem sf_ (A:Au) (j:Nat):(a8_ A j).length≤j:=by
 unfold a8_
 rw [List.length_map]
 exact Nat.le_trans (List.length_filter_le ..) (by simp)
theorem sg_ {A:Au} {j:Nat} (hj:j<A.f.length) (hf:(j:Int)∈ad_ A):idxC A (af_ A) (j:Int)=((a8_ A (j+1)).map (clsI A)).idxOf (clsA A j):=by
 obtain⟨r,hr⟩:=nd_ A (show j+1≤A.f.length by omega)
 unfold idxC
 rw [← i0_,← hr,List.map_append]
 show _=_
 have hm:clsI A (j:Int)∈(a8_ A (j+1)).map (clsI A):=by
  obtain⟨q,q1,q2⟩:=na_ j hf
  exact List.mem_map.2 ⟨q,q1,q2⟩
 rw [List.idxOf_append,if_pos hm];rfl
def kI (s:Nat):Value:= .int .i64 (s:Int)
theorem wp_ {a b:Nat} (h:kI a=kI b):a=b:=by unfold kI at h;injection h with _ h;omega
theorem wn_ {s:Nat} (h:s≤1000000):∃ l,keyOf Try.prog 3 (kI s)=some l:=
 ⟨_,Maps.keyOf_int_mk (q:= .i64) (by kernel_rfl) (by simp [Lit.wf,IntKind.min,IntKind.max,IntKind.signed,IntKind.bits];omega)⟩
theorem w2_:Maps.Keyed Try.prog 3:=Maps.int_keyed (q:= .i64) (by kernel_rfl)
def ksQ (A:Au) (j:Nat):List Value:=(a8_ A j).map fun r=>kI (clsI A r)
def dsQ (A:Au) (j:Nat):List D:=(List.range (a8_ A j).length).map fun (i:Nat)=>D.flat (.int .i64 (i:Int))
theorem s1_ (A:Au) (j:Nat):ksQ A j=((a8_ A j).map (clsI A)).map kI:=by unfold ksQ;rw [List.map_map];rfl
theorem ue_ {A:Au} (hok:AuOk A) {j:Nat} (h:j≤A.f.length):KeysOk Try.prog 3 (ksQ A j):=by
 refine⟨w2_,fun v hv=>?_,?_⟩
 ·obtain⟨r,hr,rfl⟩:=List.mem_map.1 hv
  obtain⟨s,rfl,h1,h2⟩:=dn_.1 hr
  have h3:=(ep_ hok (p:=s) (by omega)).1
  have:=hok.hi
  exact wn_ (show clsI A (s:Int)≤1000000 by show clsA A s≤_;omega)
 ·rw [s1_,List.nodup_iff_pairwise_ne,List.pairwise_map]
  exact (List.nodup_iff_pairwise_ne.1 (vu_ hok h)).imp fun h e=>h (wp_ e)
theorem te_ {A:Au} (hok:AuOk A) {j:Nat} (hj:j<A.f.length) (hf:(j:Int)∈ad_ A) (hp:fw_ A j≠true):LookT Try.prog 3 (ksQ A j) (kI (clsA A j)) (idxC A (af_ A) (j:Int))∧(dsQ A j)[idxC A (af_ A) (j:Int)]?=some (D.flat (.int .i64 ((idxC A (af_ A) (j:Int):Nat):Int))):=by
 have hm:clsA A j∈(a8_ A j).map (clsI A):=Classical.not_not.1 fun h=>hp ((kw_ hf).2 h)
 have hi:=sg_ hj hf
 rw [fj_,if_neg hp,List.append_nil] at hi
 have hlt:=List.idxOf_lt_length_of_mem hm
 rw [← hi,List.length_map] at hlt
 refine⟨⟨ue_ hok (by omega),?_⟩,?_⟩
 ·rw [s1_,List.getElem?_map,hi]
  have:=List.getElem_idxOf (List.idxOf_lt_length_of_mem hm)
  rw [List.getElem?_eq_getElem (List.idxOf_lt_length_of_mem hm),this];rfl
 ·unfold dsQ
  rw [List.getElem?_map,List.getElem?_range hlt];rfl
theorem lz_ {A:Au} (hok:AuOk A) {j:Nat} (hj:j<A.f.length) (hf:(j:Int)∈ad_ A) (hp:fw_ A j=true):LookN Try.prog 3 (ksQ A j) (kI (clsA A j)):=by
 have h3:=(ep_ hok (p:=j) hj).1
 have:=hok.hi
 refine⟨ue_ hok (by omega),wn_ (by omega),fun hm=>?_⟩
 rw [s1_] at hm
 obtain⟨c,hc,e⟩:=List.mem_map.1 hm
 have:=wp_ e
 subst this
 exact (kw_ hf).1 hp hc
theorem tu_ {A:Au} {j:Nat} (hp:fw_ A j=true):ksQ A (j+1)=ksQ A j++ [kI (clsA A j)]∧dsQ A (j+1)=dsQ A j++ [D.flat (.int .i64 (((a8_ A j).length:Nat):Int))]∧a8_ A (j+1)=a8_ A j++ [(j:Int)]:=by
 have h:=fj_ A j
 rw [if_pos hp] at h
 unfold ksQ dsQ
 rw [h]
 refine⟨by simp [clsI],?_,rfl⟩
 rw [List.length_append,List.length_singleton,List.range_succ,List.map_append];rfl
theorem th_ {A:Au} {j:Nat} (hp:fw_ A j≠true):a8_ A (j+1)=a8_ A j:=by
 have h:=fj_ A j
 rw [if_neg hp,List.append_nil] at h
 exact h
theorem ru_ {A:Au} (hok:AuOk A) {j:Nat} (hj:j<A.f.length) (hf:(j:Int)∈ad_ A) (hp:fw_ A j=true):LookT Try.prog 3 (ksQ A j++ [kI (clsA A j)]) (kI (clsA A j)) (idxC A (af_ A) (j:Int))∧(dsQ A j++ [D.flat (.int .i64 (((a8_ A j).length:Nat):Int))])[idxC A (af_ A) (j:Int)]?=some (D.flat (.int .i64 ((idxC A (af_ A) (j:Int):Nat):Int))):=by
 obtain⟨h1,h2,h3⟩:=tu_ hp
 have hn:=lz_ hok hj hf hp
 have hi:idxC A (af_ A) (j:Int)=(a8_ A j).length:=by
  rw [sg_ hj hf,h3,List.map_append,List.idxOf_append,if_neg ((kw_ hf).1 hp)]
  simp [clsI]
 refine⟨⟨hn.snoc,?_⟩,?_⟩
 ·rw [hi]
  have hl:(ksQ A j).length=(a8_ A j).length:=by simp [ksQ]
  rw [← hl];simp
 ·rw [hi]
  have hl:(dsQ A j).length=(a8_ A j).length:=by simp [dsQ]
  rw [← hl];simp
def toQ (A:Au) (s:Nat):Int:=if (s:Int)∈ad_ A then ((idxC A (af_ A) (s:Int):Nat):Int) else -1
end Go.Proofs.Ytichhfbkhnimmaa
namespace Go.Proofs.Ytichhfbkhnimmaa
open Go Go.RowKit Go.PP Go.Dm Go.Rt Go.Mn
theorem wt_ {A:Au} {j:Nat} (h:(j:Int) ∉ ad_ A):toQ A j= -1:=if_neg h
theorem om_ {A:Au} {j:Nat} (h:(j:Int)∈ad_ A):toQ A j=((idxC A (af_ A) (j:Int):Nat):Int):=if_pos h
theorem ro_ {A:Au} (hok:AuOk A) {i k:Nat} (hi:A.r[i]?=some (k:Int)) {ds:List Int} (hl:ds.length=k) (hd:∀ d∈ds,d∈ad_ A):∃ (p:Nat) (row:List Int) (q:Nat),A.to[i]?=some row∧ar_ A.f.length ds=(p:Int)∧row[p]?=some (q:Int)∧q<A.f.length∧row.length≤1000000∧toQ A q=((idxC A (af_ A) (atI A i ds):Nat):Int):=by
 have hf:Fits A i ds:=⟨by omega,by have:=(List.getElem?_eq_some_iff.1 hi).1;omega,by rw [hl];simp [List.getD,hi],fun d h=>b0_ hok (hd d h)⟩
 obtain⟨i',p,row,q,e1,h1,h2,h3,h4,h5,h6, -, -, -⟩:=hf.at hok
 have e1:i'=i:=by omega
 subst e1
 have hfq:atI A i' ds∈ad_ A:=dl_ hok hi hl hd
 obtain⟨x0,x1⟩:=b0_ hok hfq
 rw [h6] at hfq x0 x1 ⊢
 obtain⟨t,rfl⟩:=Int.eq_ofNat_of_zero_le x0
 exact⟨p,row,t,h2,h3,h5,by omega,(bj_ hok).l row (List.mem_of_getElem? h2),om_ hfq⟩
theorem zv_ {A:Au} (hok:AuOk A) {i:Nat} (hi:A.r[i]?=some ((0:Nat):Int)) (m:Nat):∃ (row:List Int) (q:Nat),A.to[i]?=some row∧row[0]?=some (q:Int)∧q<A.f.length∧row.length≤1000000∧toQ A q=qT A (af_ A) i (digs m 0 0):=by
 obtain⟨p,row,q,h1,h2,h3,h4,h5,h6⟩:=ro_ hok hi (ds:=[]) rfl (by simp)
 have h2:(0:Int)=(p:Int):=by rw [← h2];rfl
 have:p=0:=by omega
 subst this
 exact⟨row,q,h1,h3,h4,h5,h6⟩
theorem k0_ {m P:Nat} (h:P<m):digs m 1 P=[(P:Int)]:=by
 show digs m 0 (P / m)++ [((P % m:Nat):Int)]=_
 rw [Nat.mod_eq_of_lt h];rfl
theorem qa_ {m w v:Nat} (hw:w<m) (hv:v<m):digs m 2 (w*m+v)=[(w:Int),(v:Int)]:=by
 show digs m 1 ((w*m+v) / m)++ [(((w*m+v) % m:Nat):Int)]=_
 have h1:(w*m+v) / m=w:=by rw [Nat.mul_comm,Nat.mul_add_div (by omega),Nat.div_eq_of_lt hv];omega
 have h2:(w*m+v) % m=v:=by rw [Nat.mul_comm,Nat.mul_add_mod,Nat.mod_eq_of_lt hv]
 rw [h1,h2,k0_ hw];rfl
theorem t1_ {l:List Int} {w:Nat} {t:Int} (h:l[w]?=some t):phi l (w:Int)=t:=by simp [phi,List.getD,h]
theorem abk {A:Au} (hok:AuOk A) {i:Nat} (hi:A.r[i]?=some ((1:Nat):Int)) {P t:Nat} (ht:(af_ A)[P]?=some (t:Int)):∃ (row:List Int) (q:Nat),A.to[i]?=some row∧row[t]?=some (q:Int)∧q<A.f.length∧row.length≤1000000∧toQ A q=qT A (af_ A) i (digs (af_ A).length 1 P):=by
 have hP:=(List.getElem?_eq_some_iff.1 ht).1
 obtain⟨p,row,q,h1,h2,h3,h4,h5,h6⟩:=ro_ hok hi (ds:=[(t:Int)]) rfl (fun d hd=>by rw [List.mem_singleton] at hd;subst hd;exact (cx_ hok).found _ (List.mem_of_getElem? ht))
 have h2:(0*(A.f.length:Int)+(t:Int))=(p:Int):=by rw [← h2];simp [ar_]
 have:p=t:=by omega
 subst this
 refine⟨row,q,h1,h3,h4,h5,h6.trans ?_⟩
 unfold qT
 rw [k0_ hP,List.map_cons,List.map_nil,t1_ ht]
theorem abl {A:Au} (hok:AuOk A) {i:Nat} (hi:A.r[i]?=some ((2:Nat):Int)) {w v t u:Nat} (ht:(af_ A)[w]?=some (t:Int)) (hu:(af_ A)[v]?=some (u:Int)):∃ (row:List Int) (q:Nat),A.to[i]?=some row∧row[t*A.f.length+u]?=some (q:Int)∧q<A.f.length∧row.length≤1000000∧toQ A q=qT A (af_ A) i (digs (af_ A).length 2 (w*(af_ A).length+v)):=by
 have hw:=(List.getElem?_eq_some_iff.1 ht).1
 have hv:=(List.getElem?_eq_some_iff.1 hu).1
 obtain⟨p,row,q,h1,h2,h3,h4,h5,h6⟩:=ro_ hok hi (ds:=[(t:Int),(u:Int)]) rfl (fun d hd=>by
  rcases List.mem_cons.1 hd with rfl|hd
  ·exact (cx_ hok).found _ (List.mem_of_getElem? ht)
  ·rw [List.mem_singleton] at hd;subst hd;exact (cx_ hok).found _ (List.mem_of_getElem? hu))
 have h2:((t:Int)*(A.f.length:Int)+(u:Int))=(p:Int):=by rw [← h2];simp [ar_]
 have:p=t*A.f.length+u:=by
  have h7:((t*A.f.length+u:Nat):Int)=(t:Int)*(A.f.length:Int)+(u:Int):=by push_cast;rfl
  omega
 subst this
 refine⟨row,q,h1,h3,h4,h5,h6.trans ?_⟩
 unfold qT
 rw [qa_ hw hv,List.map_cons,List.map_cons,List.map_nil,t1_ ht,t1_ hu]
end Go.Proofs.Ytichhfbkhnimmaa
set_option linter.unusedSectionVars false
set_option maxHeartbeats 400000
namespace Go.Dm
open Go Go.RowKit Go.PP
variable [GlobW] [Rnd]
variable {P:Program} {N:Nat} {dst:Option Tmp} {ty:TypeId} {pos:String} {af:Array Edge} {gd:Option (Nat × Bool)}
theorem abe {w w':World} {ρ:Operand→Value} {x y:Operand} {t xt:TypeId} {v u v':Value} (hx:ρ x=v) (hy:ρ y=u) (h:(Builtin.copy_ #[t,xt] ty #[v,u]).run P w= .ok v' w'):
  (execOp ρ ⟨dst,.call { callee:= .builtin .copy,args:= #[x,y],argTypes:= #[t,xt] },ty,pos,af,gd⟩).run P w= .ok (.value v') w':=by
 simp only [execOp,resolve,invoke,builtin,Sem.run_bind,Sem.run_pure,Result.andThen_ok,List.map_toArray,List.map_cons,List.map_nil,hx,hy,h]
theorem T.copyCore {pf:List (Operand × D)} {e id off l1 c1:Nat} {cs ds:List D} (t:TypeId) (x y:Operand) (ht:P.underlying t=some (.slice e)) (hsz:(P.info? e).map (·.size)=some 1) (hle:off+ds.length≤cs.length) (ho:oneL ds=true) (hk0:keysOf cs=none) (hpx:(x,.bsl id off l1 c1)∈pf)
  (hsrc:∀ (w0:World) (M0:Nat→Prop) (B0:Bd) (s:DS) (g:Gh) (a:Act) (w:World),StG w0 M0 B0 N g s a w→Evs s.f pf→lkE s.σ id=some (.box cs)→ ∃ p sl sc us,a.eval y= .slice (some p) sl sc∧us.length=Nat.min sl l1∧(∀ (j:Nat) v,us[j]?=some v→w.cell? (p.add j)=some v)∧RepL (Mx M0 g s.σ) w (some (g,s.σ)) ds us):
  Tri P N ⟨dst,.call { callee:= .builtin .copy,args:= #[x,y],argTypes:= #[t,t] },ty,pos,af,gd⟩ pf [(id,some (.box cs))] (.flat (.int .i64 (ds.length:Nat))) [(id,some (.box (spliceD cs off ds)))]:=by
 refine⟨?_⟩
 intro w0 M0 B0 s a w next Q h1 h2 hd ⟨g,hs⟩ hk
 have he:=h2.1
 have hvx:=hs.eval x
 rw [h1.mem _ hpx] at hvx
 simp only [Rep] at hvx
 obtain⟨g',σ',cs0,hG,_,hx⟩:=hvx
 cases hG
 obtain⟨vs,T,o1,o2,o4⟩:=hs.ent id _ he
 obtain⟨T,rfl⟩:=o4.cells hk0
 obtain⟨p,sl,sc,us,hy,hul,hrd,u2⟩:=hsrc w0 M0 B0 s g a w hs h1 he
 have hl1:=o2.length
 have hl2:=u2.length
 have hrun:=run_copy_cells (P:=P) (ty:=ty) w t t e (g.blk id) off l1 c1 p sl sc us ht hsz hul hrd (fun j hj=>by simp only [World.cell?,o1];simp;omega) (fun j hj=>iw_ o1 (.inl rfl) (by simp;omega)) (RepL.one ho u2)
 refine cy_ (abe hx hy hrun) ?_
 have hbo:blkOf g s.σ id=some (g.blk id):=by unfold blkOf;rw [he]
 have hm:Mut (fun b=>blkOf g s.σ id=some b) w (w.setCells (g.blk id) off us):=(cz_ (g.blk id) us off w).mono (fun b _ e=>by rw [e];exact hbo)
 have hS:∀ b,b<w.heap.size→blkOf g s.σ id=some b→Mx M0 g s.σ b:=fun b _ hb=> .inr ⟨id,hb⟩
 have hgr:Grow (g,s.σ) (g,(id,some (.box (spliceD cs off ds)))::s.σ):=⟨fun k c1 hk=>by
   by_cases e2:id=k
   ·subst e2;exact⟨⟨_,by rw [aa_,if_pos rfl]⟩,rfl⟩
   ·exact⟨⟨c1,by rw [aa_,if_neg e2];exact hk⟩,rfl⟩,fun k e1 n1 l1 c1 hk=>by
   by_cases e2:id=k
   ·subst e2;simp only at hk;rw [he] at hk;cases hk
   ·exact .inr ⟨e1,n1,l1,c1,by rw [aa_,if_neg e2];exact hk,Nat.le_refl _,fun _=>rfl⟩,fun k hk=>by
   have hne:¬ id=k:=fun e1=>by subst e1;simp only at hk;rw [he] at hk;cases hk
   simp only at hk ⊢
   rw [aa_,if_neg hne];exact hk⟩
 refine hk _ _ ⟨g,hs.set1 id (.box (spliceD cs off ds)) (fun h0=>by rw [he] at h0;cases h0) hm (fun _ _=>rfl) (fun _ _=>rfl) hgr (fun b hb=>?_) (fun M hM=>?_) hd (fun M hM=>by simp only [Rep,goInt];rw [hl2])⟩
 ·simp only [blkOf,aa_,if_pos,Option.some.injEq] at hb
  subst hb
  exact⟨Nat.lt_of_lt_of_le (Array.getElem?_eq_some_iff.1 o1).1 hm.size,fun _=>hbo⟩
 ·exact⟨_,_,cm_ _ T us vs off w o1 (by omega),RepL.splice (RepL.step (G:=some _) (G':=some _) hgr hm hS hM cs vs o2) (RepL.step (G:=some _) (G':=some _) hgr hm hS hM ds us u2),ObjIs.mk (gd_ hk0 ho)⟩
theorem T.copySl {f:Bool} {e id off l1 c1 m:Nat} {cs ds:List D} (t:TypeId) (x y:Operand) (ht:P.underlying t=some (.slice e)) (hsz:(P.info? e).map (·.size)=some 1) (hm:m≤l1) (hm0:0<m) (hl:ds.length=m) (hle:off+ds.length≤cs.length) (ho:oneL ds=true) (hk0:keysOf cs=none:=by first|rfl|assumption):
  Tri P N ⟨dst,.call { callee:= .builtin .copy,args:= #[x,y],argTypes:= #[t,t] },ty,pos,af,gd⟩ [(x,.bsl id off l1 c1),(y,.sl f 1 m ds)] [(id,some (.box cs))] (.flat (.int .i64 (m:Nat))) [(id,some (.box (spliceD cs off ds)))]:=by
 have hc:=T.copyCore (dst:=dst) (ty:=ty) (pos:=pos) (af:=af) (gd:=gd) (N:=N) (pf:=[(x,.bsl id off l1 c1),(y,.sl f 1 m ds)]) t x y ht hsz hle ho hk0 (.head _) fun w0 M0 B0 s g a w hs h1 he=>by
  have hvy:=hs.eval y
  rw [show evalD s.f y= .sl f 1 m ds from h1.2.1] at hvy
  simp only [Rep] at hvy
  obtain⟨p,sc,r1,r2,r3,r4,r5,r6⟩:=hvy
  rcases r6 with r6| ⟨b,o,rfl,r7,r8⟩
  ·omega
  ·obtain⟨us,q1,q2⟩:=RepC.vals r8
   refine⟨_,m,sc,us,r1,?_,fun j v hj=>by rw [ct_];exact q2 j v hj,q1.up⟩
   rw [← q1.length,hl]
   exact (Nat.min_eq_left hm).symm
 rw [hl] at hc
 exact hc
theorem T.copyBsl {e id off l1 c1 o2 l2 c2:Nat} {cs ds:List D} (t:TypeId) (x y:Operand) (ht:P.underlying t=some (.slice e)) (hsz:(P.info? e).map (·.size)=some 1) {k:Nat} (hk:Nat.min l2 l1=k) (hds:(cs.drop o2).take k=ds) (hl:ds.length=k) (hle:off+ds.length≤cs.length) (ho:oneL ds=true) (hk0:keysOf cs=none:=by first|rfl|assumption):
  Tri P N ⟨dst,.call { callee:= .builtin .copy,args:= #[x,y],argTypes:= #[t,t] },ty,pos,af,gd⟩ [(x,.bsl id off l1 c1),(y,.bsl id o2 l2 c2)] [(id,some (.box cs))] (.flat (.int .i64 (k:Nat))) [(id,some (.box (spliceD cs off ds)))]:=by
 subst hk
 have hc:=T.copyCore (dst:=dst) (ty:=ty) (pos:=pos) (af:=af) (gd:=gd) (N:=N) (pf:=[(x,.bsl id off l1 c1),(y,.bsl id o2 l2 c2)]) t x y ht hsz hle ho hk0 (.head _) fun w0 M0 B0 s g a w hs h1 he=>by
  have hvy:=hs.eval y
  rw [show evalD s.f y= .bsl id o2 l2 c2 from h1.2.1] at hvy
  simp only [Rep] at hvy
  obtain⟨g',σ',cs0,hG,_,hy⟩:=hvy
  cases hG
  obtain⟨vs,T,r1,r2,r4⟩:=hs.ent id _ he
  obtain⟨T,rfl⟩:=r4.cells hk0
  have hd:RepL (Mx M0 g s.σ) w (some (g,s.σ)) ds ((vs.drop o2).take (Nat.min l2 l1)):=by
   rw [← hds];exact (r2.drop o2).take _
  refine⟨_,l2,c2,_,hy,by rw [← hd.length,hl],fun j v hj=>?_,hd⟩
  rw [ct_]
  rw [List.getElem?_take] at hj
  split at hj
  ·rw [List.getElem?_drop] at hj
   simp only [World.cell?,r1]
   simpa using hj
  ·cases hj
 rw [hl] at hc
 exact hc
end Go.Dm
set_option maxHeartbeats 4000000
namespace Go.Proofs.Ytichhfbkhnimmaa
open Go Go.RowKit Go.PP Go.Dm Go.Rt Go.Mn
theorem xj_ (n:Nat) (hn:n≤1000000):DFun Try.prog 133 [.flat (.int .u64 ((1:Nat):Int)),.flat (.int .u64 ((n:Nat):Int))] (.tup [.flat (.int .u64 ((0:Nat):Int)),.flat (.int .u64 ((n:Nat):Int))]):=by
 have e1:1 &&& 4294967295=1:=rfl
 have e2:n &&& 4294967295=n:=by rw [show 4294967295=2 ^ 32 - 1 from rfl,Nat.and_two_pow_sub_one_eq_mod];omega
 have e3:1 / 2 ^ 32=0:=rfl
 have e4:n / 2 ^ 32=0:=by omega
 refine DFun.enterA Try.func133 Try.ntmps133 ?_
 refine DW.walkTo 5 ?_
 rw [e1,e2,e3,e4]
 refine DW.walkTo 7 ?_
 rw [show ((1:Nat):Int)*((n:Nat):Int)=((n:Nat):Int) by omega,show 1*n / 2 ^ 32=0 by omega,show ((0:Nat):Int)*((n:Nat):Int)+((0:Nat):Int)=((0:Nat):Int) by omega]
 refine DW.walkTo 9 ?_
 rw [show 0 &&& 4294967295=0 from rfl,show 0 / 2 ^ 32=0 from rfl]
 refine DW.walkTo 10 ?_
 rw [show ((1:Nat):Int)*((0:Nat):Int)=((0:Nat):Int) by omega,show ((0:Nat):Int)+((0:Nat):Int)=((0:Nat):Int) by omega]
 refine DW.walk ?_
 refine⟨.inr rfl,ResOk.two [] rfl rfl rfl trivial (Vw.le (Vw.pers rfl) (Le.of_eq ?_)) (Vw.le (Vw.pers rfl) (Le.of_eq ?_))⟩
 ·clear e2
  rfl
 ·clear e2
  congr 2
  rw [show ((1:Nat):Int)*((n:Nat):Int)=((n:Nat):Int) by omega]
  rfl
theorem adp (n:Nat) (hn:n≤1000000):DFun Try.prog 126 [.flat (.int .u64 ((1:Nat):Int)),.flat (.int .u64 ((n:Nat):Int))] (.tup [.flat (.int .u64 ((0:Nat):Int)),.flat (.int .u64 ((n:Nat):Int))]):=by
 have h:=xj_ n hn
 refine DFun.enterA Try.func126 Try.ntmps126 ?_
 refine DW.walk ?_
 exact⟨.inr rfl,ResOk.two [] rfl rfl rfl trivial (Vw.pers rfl) (Vw.pers rfl)⟩
theorem hy_ {v z:D} {n j k:Nat} (h:j+k≤n):spliceD (List.replicate j v++List.replicate (n - j) z) j (List.replicate k v)=List.replicate (j+k) v++List.replicate (n - (j+k)) z:=by
 unfold spliceD
 rw [List.take_left' (by simp),List.drop_append,List.length_replicate,List.drop_eq_nil_of_le (by simp),List.nil_append,List.drop_replicate,← List.replicate_append_replicate]
 congr 2
 simp;omega
theorem ps_ {v z:D} {n j k:Nat} (h:k≤j):((List.replicate j v++List.replicate (n - j) z).drop 0).take k=List.replicate k v:=by
 rw [List.drop_zero,List.take_append_of_le_length (by simpa using h),List.take_replicate]
 congr 1;omega
theorem u7_ (d:D) (n:Nat) (h:oneL [d]=true):oneL (List.replicate n d)=true:=by
 induction n with
 |zero=>rfl
 |succ n ih=>simp only [List.replicate_succ,oneL] at h ⊢;simp_all
theorem sp_ (v z:Value) (j m:Nat):keysOf (List.replicate j (D.flat v)++List.replicate m (D.flat z))=none:=by cases j <;> cases m <;> rfl
theorem r7_ (a b:D) (j m:Nat) (ha:pers a=true) (hb:pers b=true):persL (List.replicate j a++List.replicate m b)=true:=by
 induction j with
 |zero=>
  rw [List.replicate_zero,List.nil_append]
  induction m with
  |zero=>rfl
  |succ m ih=>simp only [List.replicate_succ,persL,hb,ih,Bool.and_self]
 |succ j ih=>simp only [List.replicate_succ,List.cons_append,persL,ha,ih,Bool.and_self]
theorem pp_ (v:Int) (n:Nat) (h0:0<n) (hn:n≤1000000):DLend Try.prog 110 [.sl false 1 1 [.flat (.int .i64 v)],.flat (.int .i64 ((n:Nat):Int))] [(13107200007,none)] [(13107200007,some (.box (List.replicate n (.flat (.int .i64 v)))))] (.bsl 13107200007 0 n n):=by
 have hm:=adp n hn
 have mb:BoxAt 30 13107200007:=⟨⟩
 refine DLend.enterA Try.func110 Try.ntmps110 ?_
 refine DW.walk ?_
 have hs1:D.flat (.int .i64 v)::List.drop 1 (List.replicate n (D.flat (.int .i64 0)))=List.replicate 1 (.flat (.int .i64 v))++List.replicate (n - 1) (D.flat (.int .i64 0)):=by
  have:=hy_ (v:=D.flat (.int .i64 v)) (z:=D.flat (.int .i64 0)) (n:=n) (j:=0) (k:=1) (by omega)
  simp [spliceD] at this ⊢
 have hpp:∀ j m:Nat,persL (List.replicate j (D.flat (.int .i64 v))++List.replicate m (D.flat (.int .i64 0)))=true:=fun j m=>r7_ _ _ _ _ rfl rfl
 have hp1:=hpp 1 (n - 1)
 generalize hB1:List.replicate 1 (D.flat (.int .i64 v))++List.replicate (n - 1) (D.flat (.int .i64 0))=B1 at*
 have hsz:(Try.prog.info? 3).map (·.size)=some 1:=by kernel_rfl
 refine DC.t (T.copySl (ds:=[.flat (.int .i64 v)]) _ _ _ un22 hsz (by simp;omega) (by simp) rfl (by simp;omega) rfl (by cases n <;> rfl)) ⟨rfl,rfl,trivial⟩ ⟨rfl,trivial⟩ ?_
 refine DC.walk ?_
 rw [hs1]
 refine DW.loopA (fun j:Nat=>⟨[(7,.bsl 13107200007 0 n n),(8,.flat (.int .i64 ((j:Nat):Int)))],[(13107200007,some (.box (List.replicate j (.flat (.int .i64 v))++List.replicate (n - j) (.flat (.int .i64 0)))))]⟩) (fun j=>1≤j∧j≤n) (fun j=>n - j) 1 ?_ ⟨Nat.le_refl _,h0⟩ (by rw [hB1];exact Sub.auto)
 ·rintro j ⟨h1,h2⟩
  have hp0:=hpp j (n - j)
  have hk:=sp_ (.int .i64 v) (.int .i64 0) j (n - j)
  rcases Nat.lt_or_ge j n with hlt|hge
  ·obtain⟨k,hkk⟩:∃ k,min j (n - j)=k:=⟨_,rfl⟩
   have hkj:k≤j∧k≤n - j∧0<k:=by omega
   have hcut:=ps_ (v:=D.flat (.int .i64 v)) (z:=D.flat (.int .i64 0)) (n:=n) hkj.1
   have hspl:=hy_ (v:=D.flat (.int .i64 v)) (z:=D.flat (.int .i64 0)) (n:=n) (j:=j) (k:=k) (by omega)
   have hlb:(List.replicate j (D.flat (.int .i64 v))++List.replicate (n - j) (D.flat (.int .i64 0))).length=n:=by simp;omega
   have hrl:(List.replicate k (D.flat (.int .i64 v))).length=k:=by simp
   have hro:=u7_ (.flat (.int .i64 v)) k rfl
   generalize hDK:List.replicate k (D.flat (.int .i64 v))=DK at*
   generalize hBX:List.replicate j (D.flat (.int .i64 v))++List.replicate (n - j) (D.flat (.int .i64 0))=BX at*
   refine DW.walk ?_
   refine DC.t (T.copyBsl (ds:=DK) (k:=k) _ _ _ un22 hsz hkk hcut hrl (by omega) hro hk) ⟨rfl,rfl,trivial⟩ ⟨rfl,trivial⟩ ?_
   refine DC.walk ?_
   have hp2:=hpp (j+k) (n - (j+k))
   unfold spliceD at hspl
   rw [Nat.zero_add]
   rw [hspl]
   generalize hBY:List.replicate (j+k) (D.flat (.int .i64 v))++List.replicate (n - (j+k)) (D.flat (.int .i64 0))=BY at*
   exact⟨j+k,by omega,by omega,by rw [hBY];exact Sub.auto⟩
  ·obtain rfl:j=n:=by omega
   refine DW.walk ?_
   have hfin:((List.replicate j (D.flat (.int .i64 v))++List.replicate (j - j) (D.flat (.int .i64 0))).drop 0).take j=List.replicate j (D.flat (.int .i64 v)):=ps_ (Nat.le_refl _)
   have hb2:List.replicate j (D.flat (.int .i64 v))++List.replicate (j - j) (D.flat (.int .i64 0))=List.replicate j (D.flat (.int .i64 v)):=by simp
   have hpz:=hpp j 0
   rw [List.replicate_zero,List.append_nil] at hpz
   rw [hb2] at*
   generalize List.replicate j (D.flat (.int .i64 v))=BX at*
   exact⟨.inr rfl,ResL.oneA⟩
end Go.Proofs.Ytichhfbkhnimmaa
namespace Go.Mn
open Go Go.Rt
def kn (K:List Bool) (x:Nat):Bool:=K.getD x false
def ce_ (A:Au) (i p:Nat) (x:List Bool × Bool):List Bool × Bool:=
 if (opsN A.f.length (rankN A i) p).all (kn x.1) then (x.1.set (succN A i p) true,!(kn x.1 (succN A i p)) || x.2) else x
def fRow (A:Au) (i:Nat) (x:List Bool × Bool):Nat→List Bool × Bool
 |0=>x
 |j+1=>ce_ A i j (fRow A i x j)
def fSym (A:Au) (x:List Bool × Bool):Nat→List Bool × Bool
 |0=>x
 |i+1=>fRow A i (fSym A x i) (rowN A i).length
def pass (A:Au) (K:List Bool):List Bool × Bool:=fSym A (K,false) A.r.length
structure FInv (K0:List Bool) (x:List Bool × Bool):Prop where
 len:x.1.length=K0.length
 no:x.2=false→x.1=K0
 yes:x.2=true→x.1.count false<K0.count false
theorem um_ {K:List Bool} {s:Nat} (h:kn K s=true):K.set s true=K:=by
 unfold kn at h
 refine List.ext_getElem? fun a=>?_
 rw [List.getElem?_set]
 split
 ·rename_i e
  subst e
  rw [List.getD_eq_getElem?_getD] at h
  cases hk:K[s]? with
  |none=>rw [hk] at h;cases h
  |some b=>
   rw [hk] at h
   have h:b=true:=h
   subst h
   rw [if_pos (List.getElem?_eq_some_iff.1 hk).1]
 ·rfl
theorem m1_:∀ {K:List Bool} {s:Nat},K[s]?=some false→(K.set s true).count false<K.count false
 | [],s,h=>by simp at h
 |b::K,0,h=>by
  simp at h;subst h
  simp [List.count_cons]
 |b::K,s+1,h=>by
  have:=m1_ (K:=K) (s:=s) (by simpa using h)
  simp only [List.set_cons_succ,List.count_cons]
  omega
theorem FInv.step {A:Au} {K0:List Bool} {i p:Nat} {x:List Bool × Bool} (hs:succN A i p<K0.length) (h:FInv K0 x):FInv K0 (ce_ A i p x):=by
 unfold ce_
 split
 ·by_cases hk:kn x.1 (succN A i p)=true
  ·rw [hk,um_ hk]
   simpa using h
  ·have  hk:kn x.1 (succN A i p)=false:=by simpa using hk
   rw [hk]
   refine⟨by simpa using h.len,fun e=>by simp at e,fun _=>?_⟩
   have  h1:x.1[succN A i p]?=some false:=by
        have hl:succN A i p<x.1.length:=by rw [h.len];exact hs
        unfold kn at hk
        rw [List.getD_eq_getElem?_getD,List.getElem?_eq_getElem hl] at hk
        rw [List.getElem?_eq_getElem hl]
        exact congrArg some hk
   have h2:=m1_ h1
   show (x.1.set _ true).count false<_
   cases hx:x.2 with
   |false=>rw [h.no hx] at h2 ⊢;exact h2
   |true=>have:=h.yes hx;omega
 ·exact h
theorem FInv.row {A:Au} (hok:AuOk A) {K0:List Bool} (hl:K0.length=A.f.length) {i:Nat} (hi:i<A.r.length) {x:List Bool × Bool} (h:FInv K0 x):∀ j,j≤(rowN A i).length→FInv K0 (fRow A i x j)
 |0,_=>h
 |j+1,hj=>by
  have hr:=(bq_ hok hi).2.2 j ((rowN A i)[j]'(by omega)) (by simp)
  exact (FInv.row hok hl hi h j (by omega)).step (by rw [hl];exact hr.2)
theorem FInv.sym {A:Au} (hok:AuOk A) {K0:List Bool} (hl:K0.length=A.f.length) {x:List Bool × Bool} (h:FInv K0 x):∀ i,i≤A.r.length→FInv K0 (fSym A x i)
 |0,_=>h
 |i+1,hi=>(FInv.sym hok hl h i (by omega)).row hok hl (by omega) _ (Nat.le_refl _)
theorem v3_ {A:Au} (hok:AuOk A) {K:List Bool} (hl:K.length=A.f.length):FInv K (pass A K):=
 FInv.sym hok hl ⟨rfl,fun _=>rfl,fun h=>by cases h⟩ _ (Nat.le_refl _)
theorem pf_ {A:Au} {i p:Nat} {x:List Bool × Bool} (h:(ce_ A i p x).2=false):x.2=false∧((opsN A.f.length (rankN A i) p).all (kn x.1)=true→kn x.1 (succN A i p)=true):=by
 unfold ce_ at h
 split at h
 ·rename_i e
  simp at h
  exact⟨h.2,fun _=>h.1⟩
 ·rename_i e
  exact⟨h,fun e'=>absurd e' e⟩
theorem od_ {A:Au} {i:Nat} {x:List Bool × Bool}:∀ {j:Nat},(fRow A i x j).2=false→x.2=false∧ ∀ p,p<j→(fRow A i x p).2=false
 |0,h=>⟨h,fun p hp=>by omega⟩
 |j+1,h=>by
  have h1:=(pf_ h).1
  obtain⟨h2,h3⟩:=od_ h1
  refine⟨h2,fun p hp=>?_⟩
  rcases Nat.lt_or_ge p j with h4|h4
  ·exact h3 p h4
  ·obtain rfl:p=j:=by omega
   exact h1
theorem uc_ {A:Au} {x:List Bool × Bool}:∀ {j:Nat},(fSym A x j).2=false→ ∀ i,i<j→(fSym A x (i+1)).2=false∧(fSym A x i).2=false
 |0,h=>fun p hp=>by omega
 |j+1,h=>by
  have h1:=(od_ (show (fRow A j (fSym A x j) _).2=false from h)).1
  intro p hp
  rcases Nat.lt_or_ge p j with h4|h4
  ·exact uc_ h1 p h4
  ·obtain rfl:p=j:=by omega
   exact⟨h,h1⟩
theorem no_ {A:Au} (hok:AuOk A) {K:List Bool} (hl:K.length=A.f.length) (h:(pass A K).2=false):ip_ A (fun x=>kn K x=true):=by
 intro i p hi hp ho
 have hK:FInv K (K,false):=⟨rfl,fun _=>rfl,fun h=>by cases h⟩
 obtain⟨h1,h2⟩:=uc_ h i hi
 have e1:=(FInv.sym hok hl hK i (by omega)).no h2
 have h3:=(od_ (show (fRow A i (fSym A (K,false) i) _).2=false from h1)).2
 have hx:∀ j,j≤(rowN A i).length→FInv K (fRow A i (fSym A (K,false) i) j):=fun j hj=>(FInv.sym hok hl hK i (by omega)).row hok hl hi j hj
 have h4:(fRow A i (fSym A (K,false) i) (p+1)).2=false:=by
  rcases Nat.lt_or_ge (p+1) (rowN A i).length with h4|h4
  ·exact h3 _ h4
  ·rw [show p+1=(rowN A i).length by omega];exact h1
 have h5:=(pf_ (show (ce_ A i p (fRow A i (fSym A (K,false) i) p)).2=false from h4)).2
 rw [(hx p (by omega)).no (h3 p hp)] at h5
 exact h5 (List.all_eq_true.2 ho)
def foU (φ:Nat→Nat) (n:Nat) (K:List Bool):List Int:=(List.range n).map fun x=>if kn K x then (φ x:Int) else -1
theorem d6_ (φ:Nat→Nat) (n:Nat) (K:List Bool):(foU φ n K).length=n:=by simp [foU]
theorem ds_ {φ:Nat→Nat} {n:Nat} {K:List Bool} {x:Nat} (h:x<n):(foU φ n K)[x]?=some (if kn K x then (φ x:Int) else -1):=by simp [foU,h]
theorem ww_ {K:List Bool} {s x:Nat} (h:s<K.length):kn (K.set s true) x=if s=x then true else kn K x:=by
 unfold kn
 rw [List.getD_eq_getElem?_getD,List.getElem?_set]
 by_cases e:s=x
 ·subst e;rw [if_pos rfl,if_pos h,if_pos rfl];rfl
 ·rw [if_neg e,if_neg e,List.getD_eq_getElem?_getD]
theorem ln_ {φ:Nat→Nat} {n:Nat} {K:List Bool} {s:Nat} (hl:K.length=n) (h:s<n):(foU φ n K).set s (φ s:Int)=foU φ n (K.set s true):=by
 refine List.ext_getElem? fun a=>?_
 rw [List.getElem?_set,d6_]
 by_cases e:s=a
 ·subst e
  rw [if_pos rfl,if_pos h,ds_ h,ww_ (by omega),if_pos rfl];rfl
 ·rw [if_neg e]
  by_cases ha:a<n
  ·rw [ds_ ha,ds_ ha,ww_ (by omega),if_neg e]
  ·rw [List.getElem?_eq_none (by rw [d6_];omega),List.getElem?_eq_none (by rw [d6_];omega)]
theorem uh_ (φ:Nat→Nat) (n:Nat):foU φ n (List.replicate n false)=List.replicate n (-1):=by
 refine List.ext_getElem? fun a=>?_
 by_cases ha:a<n
 ·rw [ds_ ha,List.getElem?_replicate,if_pos ha]
  unfold kn
  rw [List.getD_eq_getElem?_getD,List.getElem?_replicate,if_pos ha];rfl
 ·rw [List.getElem?_eq_none (by rw [d6_];omega),List.getElem?_eq_none (by simp;omega)]
structure Iso (A B:Au) (φ:Nat→Nat):Prop where
 lt:∀ x,x<A.f.length→φ x<A.f.length
 len:B.to.length=A.to.length
 at0:∀ i,i<A.r.length→rankN A i=0→ ∃ row,B.to[i]?=some row∧row[0]?=some ((φ (succN A i 0):Nat):Int)
 at1:∀ i,i<A.r.length→rankN A i=1→ ∃ row,B.to[i]?=some row∧ ∀ p,p<A.f.length→row[φ p]?=some ((φ (succN A i p):Nat):Int)
 at2:∀ i,i<A.r.length→rankN A i=2→ ∃ row,B.to[i]?=some row∧ ∀ p,p<A.f.length*A.f.length→row[φ (p / A.f.length)*A.f.length+φ (p % A.f.length)]?=some ((φ (succN A i p):Nat):Int)
end Go.Mn
namespace Go.Proofs.Ytichhfbkhnimmaa
open Go Go.RowKit Go.PP Go.Dm Go.Rt Go.Mn
theorem am_ (U:List Int):keysOf (U.map fun x=>D.flat (.int .i64 x))=none:=by cases U <;> rfl
theorem vc_ (n:Nat) (hn:n≤1000000) (U:List Int) (hU:U.length=n) (s:Nat) (x v:Int) (h:U[s]?=some x):DLend Try.prog 123 [.flat (.int .i64 ((s:Nat):Int)),.flat (.int .i64 v),.ref 13107200005 0] [(13107200005,some (.box [.bsl 13107200007 0 n n])),(13107200007,some (.box (U.map fun x=>D.flat (.int .i64 x))))] [(13107200005,some (.box [.bsl 13107200007 0 n n])),(13107200007,some (.box ((U.set s v).map fun x=>D.flat (.int .i64 x))))] (.flat (.bool (decide (x= -1)))):=by
 have hp:=ab_ U
 have hp2:=ab_ (U.set s v)
 have hq:=an_ h
 have hkU:=am_ U
 have hkV:=am_ (U.set s v)
 rw [Nat.mul_one,← Nat.zero_add s] at hq
 have hs:=(List.getElem?_eq_some_iff.1 h).1
 have hl:(U.map fun x=>D.flat (.int .i64 x)).length=n:=by simp [hU]
 have hset:List.take (0+s) (U.map fun x=>D.flat (.int .i64 x))++ [D.flat (.int .i64 v)]++List.drop (0+s+1) (U.map fun x=>D.flat (.int .i64 x))=((U.set s v).map fun x=>D.flat (.int .i64 x)):=by
  have h1:=bi_ (x:=D.flat (.int .i64 v)) (show s<(U.map fun x=>D.flat (.int .i64 x)).length by omega)
  unfold spliceD at h1
  rw [Nat.zero_add,List.map_set]
  exact h1
 generalize ((U.set s v).map fun x=>D.flat (.int .i64 x))=LV at*
 generalize (U.map fun x=>D.flat (.int .i64 x))=LU at*
 refine DLend.enterA Try.func123 Try.ntmps123 ?_
 refine DW.walk ?_
 rw [hset]
 exact⟨.inr rfl,ResL.oneA⟩
end Go.Proofs.Ytichhfbkhnimmaa
