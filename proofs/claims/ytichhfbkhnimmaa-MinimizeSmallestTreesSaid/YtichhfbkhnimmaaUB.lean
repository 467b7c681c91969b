/- A machine over data: operations, regions in any order, code. No condition. -/
import Derived.Test.YtichhfbkhnimmaaUA
set_option linter.unusedSimpArgs false
set_option linter.unusedVariables false
set_option linter.unusedSectionVars false
set_option maxHeartbeats 400000
namespace Go.Dm
open Go Go.RowKit Go.PP
variable [GlobW] [Rnd]
def evalD (f:Fr):Operand→D
 | .tmp t=>lkF f t
 | .const v=> .flat v
 | .global g=> .flat (.pointer (some ⟨g,0,none⟩))
 | .func k=> .flat (.func (.func k) #[] #[])
def Evs (f:Fr):List (Operand × D)→Prop
 | []=>True
 |p::r=>evalD f p.1=p.2∧Evs f r
def Ens (σ:Sg):List (Nat × Option Ent)→Prop
 | []=>True
 |p::r=>lkE σ p.1=p.2∧Ens σ r
theorem Evs.mem {f:Fr}:∀ {l:List (Operand × D)},Evs f l→ ∀ p∈l,evalD f p.1=p.2
 | [],_,p,hp=>by simp at hp
 |q::r,h,p,hp=>by
  rcases List.mem_cons.1 hp with rfl|hp
  ·exact h.1
  ·exact Evs.mem h.2 p hp
theorem Evs.of {f:Fr}:∀ {l:List (Operand × D)},(∀ p∈l,evalD f p.1=p.2)→Evs f l
 | [],_=>trivial
 |q::r,h=>⟨h q (by simp),Evs.of fun p hp=>h p (by simp [hp])⟩
theorem Ens.mem {f:Sg}:∀ {l:List (Nat × Option Ent)},Ens f l→ ∀ p∈l,lkE f p.1=p.2
 | [],_,p,hp=>by simp at hp
 |q::r,h,p,hp=>by
  rcases List.mem_cons.1 hp with rfl|hp
  ·exact h.1
  ·exact Ens.mem h.2 p hp
theorem Ens.of {f:Sg}:∀ {l:List (Nat × Option Ent)},(∀ p∈l,lkE f p.1=p.2)→Ens f l
 | [],_=>trivial
 |q::r,h=>⟨h q (by simp),Ens.of fun p hp=>h p (by simp [hp])⟩
theorem StG.eval {w0:World} {M0:Nat→Prop} {B0:Bd} {N:Nat} {g:Gh} {s:DS} {a:Act} {w:World} (h:StG w0 M0 B0 N g s a w) (x:Operand):Rep (Mx M0 g s.σ) w (some (g,s.σ)) (evalD s.f x) (a.eval x):=by
 cases x with
 |tmp t=>exact h.tm t
 |const v=>simp [evalD,Act.eval,Rep]
 |global g=>simp [evalD,Act.eval,Rep]
 |func k=>simp [evalD,Act.eval,Rep]
theorem StG.mlt {w0:World} {M0:Nat→Prop} {B0:Bd} {N:Nat} {g:Gh} {s:DS} {a:Act} {w:World} (h:StG w0 M0 B0 N g s a w):∀ b,Mx M0 g s.σ b→b<w.heap.size:=by
 rintro b (hb| ⟨id,hb⟩)
 ·exact Nat.lt_of_lt_of_le (h.m0 b hb) h.chg.size
 ·exact (h.new id b hb).1
structure Tri (P:Program) (N:Nat) (o:Oper) (pf:List (Operand × D)) (pe:List (Nat × Option Ent)) (d:D) (we:Sg):Prop where
 intro::
 go:∀ (w0:World) (M0:Nat→Prop) (B0:Bd) (s:DS) (a:Act) (w:World) (next:Act→World→Prop) (Q:Exit→Act→World→Prop),
  Evs s.f pf→Ens s.σ pe→dstOk N o.dst=true→St w0 M0 B0 N s a w→
  (∀ a' w',St w0 M0 B0 N ⟨updF s.f o.dst d,we++s.σ⟩ a' w'→next a' w')→o.wpIn (FW Rnd.r) 0 P a w next Q
def Vals (M:Nat→Prop) (w:World) (G:Cx) (ρ:Operand→Value):List (Operand × D)→Prop
 | []=>True
 |p::r=>Rep M w G p.2 (ρ p.1)∧Vals M w G ρ r
theorem StG.vals {w0:World} {M0:Nat→Prop} {B0:Bd} {N:Nat} {g:Gh} {s:DS} {a:Act} {w:World} (h:StG w0 M0 B0 N g s a w):∀ {pf:List (Operand × D)},Evs s.f pf→Vals (Mx M0 g s.σ) w (some (g,s.σ)) a.eval pf
 | [],_=>trivial
 |p::r,h1=>⟨by rw [← h1.1];exact h.eval p.1,StG.vals h h1.2⟩
theorem Tri.run {P:Program} {N:Nat} {o:Oper} {pf:List (Operand × D)} {d:D} (hrun:∀ (M:Nat→Prop) (w:World) (G:Cx) (ρ:Operand→Value),(∀ b,M b→b<w.heap.size)→Vals M w G ρ pf→
  ∃ v w',(execOp ρ o).run P w= .ok (.value v) w'∧Fix w w'∧Rep M w' G d v):Tri P N o pf [] d []:=by
 refine⟨?_⟩
 intro w0 M0 B0 s a w next Q h1 h2 hd ⟨g,hs⟩ hk
 obtain⟨v,w',hr,hm,hv⟩:=hrun _ w (some (g,s.σ)) a.eval hs.mlt (hs.vals h1)
 exact cy_ hr (hk _ _ ⟨g,hs.pure hm hd hv⟩)
theorem Tri.val {P:Program} {N:Nat} {o:Oper} {pf:List (Operand × D)} {d:D} (hrun:∀ (M:Nat→Prop) (w:World) (G:Cx) (ρ:Operand→Value),Vals M w G ρ pf→
  ∃ v,(execOp ρ o).run P w= .ok (.value v) w∧Rep M w G d v):Tri P N o pf [] d []:=
 Tri.run fun M w G ρ _ h=>by
  obtain⟨v,h1,h2⟩:=hrun M w G ρ h
  exact⟨v,w,h1,Mut.refl _ w,h2⟩
structure Sd where
 dst:Option Tmp
 pf:List (Operand × D)
 pe:List (Nat × Option Ent)
 d:D
 we:Sg
structure Fp where
 dst:Option Tmp
 rd:List Nat
 re:List Nat
 we:List Nat
def tmpsOf:List (Operand × D)→List Nat
 | []=> []
 |(.tmp t,_)::r=>t::tmpsOf r
 |(_,_)::r=>tmpsOf r
def keys {α:Type}:List (Nat × α)→List Nat
 | []=> []
 |p::r=>p.1::keys r
def Sd.fp (s:Sd):Fp:=⟨s.dst,tmpsOf s.pf,keys s.pe,keys s.we⟩
def Stp (P:Program) (N:Nat) (ops:Array Oper) (i:Nat) (q:Sd):Prop:=
 ∀  (w0:World) (M0:Nat→Prop) (B0:Bd) (s:DS) (a:Act) (w:World) (K:Act→World→Prop) (Q:Exit→Act→World→Prop),
    Evs s.f q.pf→Ens s.σ q.pe→St w0 M0 B0 N s a w→
    (∀ a' w',St w0 M0 B0 N ⟨updF s.f q.dst q.d,q.we++s.σ⟩ a' w'→K a' w')→wpOpIn (FW Rnd.r) 0 P ops Q i K a w
theorem Stp.tri {P:Program} {N:Nat} {ops:Array Oper} {i:Nat} {o:Oper} {pf:List (Operand × D)} {pe:List (Nat × Option Ent)} {d:D} {we:Sg} (ho:ops[i]?=some o) (hg:o.guard=none) (hd:dstOk N o.dst=true) (ht:Tri P N o pf pe d we):
  Stp P N ops i ⟨o.dst,pf,pe,d,we⟩:=by
 intro w0 M0 B0 s a w K Q h1 h2 hs hk
 unfold wpOpIn
 rw [ho]
 simp only [Region.wanted,hg,if_true]
 exact (ht.go w0 M0 B0 s a w K Q h1 h2 hd hs hk)
def boolOf:Value→Option Bool
 | .bool b=>some b
 |_=>none
theorem jt_ {ops:Array Oper} {j:Nat} {t:Tmp} {a:Act} (hj:(ops[j]?).bind (·.dst)=some t) (hz:a.tmps.getD t undef≠undef∨t<a.tmps.size):yielded ops a.tmps j=boolOf (a.tmps.getD t undef):=by
 have ht:t<a.tmps.size:=by
  rcases hz with hz|hz
  ·refine Classical.byContradiction fun h=>hz ?_
   simp [Array.getElem?_eq_none (Nat.le_of_not_lt h)]
  ·exact hz
 unfold yielded
 rw [hj]
 simp only [Option.bind_some,Array.getD_eq_getD_getElem?,ht,Array.getElem?_eq_getElem,Option.getD_some]
 cases a.tmps[t] <;> rfl
theorem Stp.on {P:Program} {N:Nat} {ops:Array Oper} {i j:Nat} {t:Tmp} {b:Bool} {o:Oper} {pf:List (Operand × D)} {pe:List (Nat × Option Ent)} {d:D} {we:Sg} (ho:ops[i]?=some o) (hg:o.guard=some (j,b)) (hj:(ops[j]?).bind (·.dst)=some t) (hd:dstOk N o.dst=true) (ht:Tri P N o pf pe d we):
  Stp P N ops i ⟨o.dst,(.tmp t,.flat (.bool b))::pf,pe,d,we⟩:=by
 intro w0 M0 B0 s a w K Q h1 h2 hs hk
 obtain⟨g,hg'⟩:=id hs
 have hv:=hg'.tm t
 have e1:lkF s.f t= .flat (.bool b):=h1.1
 rw [e1] at hv
 simp only [Rep] at hv
 have hy:=jt_ (ops:=ops) (j:=j) (a:=a) hj (.inl (by rw [hv];simp [undef]))
 rw [hv] at hy
 unfold wpOpIn
 rw [ho]
 simp only [Region.wanted,hg,hy,boolOf,beq_self_eq_true,if_true]
 exact (ht.go w0 M0 B0 s a w K Q h1.2 h2 hd hs hk)
theorem Stp.off {P:Program} {N:Nat} {ops:Array Oper} {i j:Nat} {t:Tmp} {b:Bool} {v:Value} {o:Oper} (ho:ops[i]?=some o) (hg:o.guard=some (j,b)) (hj:(ops[j]?).bind (·.dst)=some t) (htn:t<N % 512) (hd:dstOk N o.dst=true) (hv:(boolOf v !=some b)=true):
  Stp P N ops i ⟨o.dst,[(.tmp t,.flat v)],[],.flat undef,[]⟩:=by
 intro w0 M0 B0 s a w K Q h1 h2 ⟨g,hs⟩ hk
 have hv':=hs.tm t
 have e1:lkF s.f t= .flat v:=h1.1
 rw [e1] at hv'
 simp only [Rep] at hv'
 have hy:=jt_ (ops:=ops) (j:=j) (a:=a) hj (.inr (by rw [hs.sz];exact htn))
 rw [hv'] at hy
 have hw:Region.wanted o (yielded ops a.tmps)=false:=by
  simp only [Region.wanted,hg,hy]
  simpa using hv
 unfold wpOpIn
 rw [ho]
 simp only [hw,Bool.false_eq_true,if_false]
 refine⟨fun f _=>trivial,?_⟩
 exact hk _ _ ⟨g,hs.pure (Mut.refl _ w) hd (by simp [Rep])⟩
inductive DSeq (P:Program) (N:Nat) (ops:Array Oper):Nat→List Oper→DS→DS→List Sd→Prop
 |nil {i:Nat} {s:DS}:DSeq P N ops i [] s s []
 |cons {i:Nat} {o:Oper} {l:List Oper} {s s':DS} {q:Sd} {qs:List Sd} (hs:ops[i]?=some o→Stp P N ops i q) (h1:Evs s.f q.pf) (h2:Ens s.σ q.pe) (hk:DSeq P N ops (i+1) l ⟨updF s.f q.dst q.d,q.we++s.σ⟩ s' qs):DSeq P N ops i (o::l) s s' (q::qs)
theorem n8_ {P:Program} {ops:Array Oper} {Q:Exit→Act→World→Prop} {N:Nat} {w0:World} {M0:Nat→Prop} {B0:Bd} {i:Nat} {l:List Oper} {s s':DS} {qs:List Sd} (h:DSeq P N ops i l s s' qs):∀ (a:Act) (w:World),(∀ j,l[j]?=ops[i+j]?)→St w0 M0 B0 N s a w→(∀ a' w',St w0 M0 B0 N s' a' w'→Q .normal a' w')→
   wpOpsIn (FW Rnd.r) 0 P ops Q (List.range' i l.length) a w:=by
 induction h with
 |nil=>intro a w _ hs hq;exact hq a w hs
 | @cons i o l s s' q qs hst h1 h2 hk ih=>
   intro a w hl hs hq
   have ho:ops[i]?=some o:=by have:=hl 0;simpa using this.symm
   rw [List.length_cons,List.range'_succ,wpOpsIn_cons]
   exact hst ho w0 M0 B0 s a w _ _ h1 h2 hs fun a' w' h3=>ih a' w' (fun j=>by have:=hl (j+1);rw [List.getElem?_cons_succ] at this;rw [this];congr 1;omega) h3 hq
def fnd {α:Type} (u:List (Nat × α)) (k:Nat):Option α:=match u with
 | []=>none
 |p::r=>bif p.1 == k then some p.2 else fnd r k
theorem gc_ {α:Type} {k:Nat}:∀ {u:List (Nat × α)},k ∉ keys u→fnd u k=none
 | [],_=>rfl
 |p::r,h=>by
  simp only [keys,List.mem_cons,not_or] at h
  have hb:(p.1 == k)=false:=by
   cases hb:(p.1 == k) with
   |false=>rfl
   |true=>exact absurd (eq_of_beq hb).symm h.1
  simp [fnd,hb,gc_ h.2]
theorem gu_ {α:Type} {k:Nat}:∀ {u:List (Nat × α)},k∈keys u→ ∃ x,fnd u k=some x
 | [],h=>by simp [keys] at h
 |p::    r,h=>by
  simp only [keys,List.mem_cons] at h
  by_cases hb:(p.1 == k)=true
  ·exact⟨p.2,by simp [fnd,hb]⟩
  ·have  hb':(p.1 == k)=false:=Bool.eq_false_iff.2 hb
   rcases h with h|h
   ·subst h;simp at hb'
   ·    obtain⟨x,hx⟩:=gu_ h
        exact⟨x,by simp [fnd,hb',hx]⟩
theorem n4_ (u f:Fr) (k:Nat):lkF (u++f) k=(fnd u k).getD (lkF f k):=by
 induction u with
 |nil=>rfl
 |cons p r ih=>
  obtain⟨a,b⟩:=p
  simp only [List.cons_append,lkF,fnd]
  cases (a == k) <;> simp [ih]
theorem eq_ (u f:Sg) (k:Nat):lkE (u++f) k=(fnd u k).getD (lkE f k):=by
 induction u with
 |nil=>rfl
 |cons p r ih=>
  obtain⟨a,b⟩:=p
  simp only [List.cons_append,lkE,fnd]
  cases (a == k) <;> simp [ih]
def lastW {α:Type} (L:Nat→Bool) (k:Nat):Nat→List (List (Nat × α))→Option α
 |_,[]=>none
 |  i,u::us=>match lastW L k (i+1) us with
    |some x=>some x
    |none=>if L i=true then fnd u k else none
theorem br_ {α:Type} {L L':Nat→Bool} {k:Nat}:∀ {us:List (List (Nat × α))} {i i':Nat},(∀ j u,us[j]?=some u→k∈keys u→L (i+j)=L' (i'+j))→lastW L k i us=lastW L' k i' us
 | [],_,_,_=>rfl
 |u::    us,i,i',h=>by
  have h1:=br_ (L:=L) (L':=L') (k:=k) (us:=us) (i:=i+1) (i':=i'+1) (fun j v hj hk=>by
   have:=h (j+1) v (by simpa using hj) hk
   rwa [show i+1+j=i+(j+1) by omega,show i'+1+j=i'+(j+1) by omega])
  simp only [lastW,h1]
  cases hw:lastW L' k (i'+1) us with
  |some x=>rfl
  |none  =>
   by_cases hk:k∈keys u
   ·    have:=h 0 u (by simp) hk
        simp only [Nat.add_zero] at this
        rw [this]
   ·simp [gc_ hk]
theorem g0_ {α:Type} {L:Nat→Bool} {k:Nat} {x:α}:∀ {us:List (List (Nat × α))} {b i:Nat} {u:List (Nat × α)},us[i]?=some u→fnd u k=some x→L (b+i)=true→(∀ j v,i<j→us[j]?=some v→k∈keys v→L (b+j)=false)→lastW L k b us=some x
 | [],_,_,_,h,_,_,_=>by simp at h
 |u0::   us,b,0,u,h,hx,hL,hn=>by
  simp only [List.getElem?_cons_zero,Option.some.injEq] at h
  subst h
  have   h0:lastW L k (b+1) us=none:=by
   rw    [br_ (L':=fun _=>false) (i':=0) (fun j v hj hk=>by
        have:=hn (j+1) v (by omega) (by simpa using hj) hk
        rw [show b+1+j=b+(j+1) by omega];exact this)]
   clear hn hx hL
   generalize (0:Nat)=m
   induction us generalizing m with
   |nil=>rfl
   |cons v r ih=>simp [lastW,ih]
  simp only [Nat.add_zero] at hL
  simp [lastW,h0,hL,hx]
 |u0::us,b,i+1,u,h,hx,hL,hn=>by
  have h1:=g0_ (us:=us) (b:=b+1) (i:=i) (u:=u) (by simpa using h) hx (by rw [show b+1+i=b+(i+1) by omega];exact hL) (fun j v hj hv hk=>by
   have:=hn (j+1) v (by omega) (by simpa using hv) hk
   rw [show b+1+j=b+(j+1) by omega];exact this)
  simp [lastW,h1]
theorem eg_ {α:Type} {L:Nat→Bool} {k:Nat} (hL:∀ m,L m=false):∀ {us:List (List (Nat × α))} {b:Nat},lastW L k b us=none
 | [],_=>rfl
 |u::us,b=>by simp [lastW,eg_ hL (us:=us),hL]
def Sd.uf (q:Sd):List (Nat × D):=match q.dst with
 |some t=> [(t,q.d)]
 |none=> []
theorem lb_ (f:Fr) (q:Sd):updF f q.dst q.d=q.uf++f:=by unfold Sd.uf updF;cases q.dst <;> rfl
def AtF (L:Nat→Bool) (qs:List Sd) (f:Fr) (t:Nat):D:=(lastW L t 0 (qs.map Sd.uf)).getD (lkF f t)
def AtE (L:Nat→Bool) (qs:List Sd) (σ:Sg) (t:Nat):Option Ent:=(lastW L t 0 (qs.map Sd.we)).getD (lkE σ t)
theorem kv_ {α β:Type} (L L':Nat→Bool) (hL:∀ m,L' m=L (m+1)) (u:List (Nat × α)) (us:List (List (Nat × α))) (k:Nat) (x:α) (h0:L 0=true):
  (lastW L k 0 (u::us)).getD x=(lastW L' k 0 us).getD ((fnd u k).getD x):=by
 have h1:lastW L k 1 us=lastW L' k 0 us:=br_ fun j v _ _=>by rw [hL];congr 1;omega
 simp only [lastW,h1,h0,if_true]
 cases lastW L' k 0 us <;> simp
theorem DSeq.facts {P:Program} {N:Nat} {ops:Array Oper} {i:Nat} {l:List Oper} {s s':DS} {qs:List Sd} (h:DSeq P N ops i l s s' qs):
   qs.length=l.length∧(∀ t,lkF s'.f t=AtF (fun _=>true) qs s.f t)∧(∀ t,lkE s'.σ t=AtE (fun _=>true) qs s.σ t)∧
   ∀ j q,qs[j]?=some q→(l[j]?=ops[i+j]?→Stp P N ops (i+j) q)∧ ∃ sj:DS,Evs sj.f q.pf∧Ens sj.σ q.pe∧(∀ t,lkF sj.f t=AtF (fun m=>decide (m<j)) qs s.f t)∧(∀ t,lkE sj.σ t=AtE (fun m=>decide (m<j)) qs s.σ t):=by
 induction h with
 |nil=>exact⟨rfl,fun t=>rfl,fun t=>rfl,fun j q hq=>by simp at hq⟩
 | @cons i o l s s' q qs hst h1 h2 hk ih=>
   obtain⟨i1,i2,i3,i4⟩:=ih
   refine⟨by simp [i1],fun t=>?_,fun t=>?_,fun j q' hq=>?_⟩
   ·rw [i2,AtF,AtF,List.map_cons,kv_ (β:=Unit) (fun _=>true) (fun _=>true) (fun _=>rfl) _ _ _ _ rfl,lb_,n4_]
   ·rw [i3,AtE,AtE,List.map_cons,kv_ (β:=Unit) (fun _=>true) (fun _=>true) (fun _=>rfl) _ _ _ _ rfl,eq_]
   ·cases j with
    |   zero=>
        simp only [List.getElem?_cons_zero,Option.some.injEq] at hq
        subst hq
        refine⟨fun e=>hst (by simpa using e.symm),s,h1,h2,fun t=>?_,fun t=>?_⟩
        ·rw [AtF,eg_ (by simp)];rfl
        ·rw [AtE,eg_ (by simp)];rfl
    |   succ j=>
        simp only [List.getElem?_cons_succ] at hq
        obtain⟨h3,sj,h4,h5,h6,h7⟩:=i4 j q' hq
        refine⟨fun e=>?_,sj,h4,h5,fun t=>?_,fun t=>?_⟩
        ·have:=h3 (by rw [List.getElem?_cons_succ] at e;rw [e];congr 1;omega)
         rwa [show i+(j+1)=i+1+j by omega]
        ·rw [h6,AtF,AtF,List.map_cons,kv_ (β:=Unit) (fun m=>decide (m<j+1)) (fun m=>decide (m<j)) (fun m=>by simp) _ _ _ _ (by simp),lb_,n4_]
        ·rw [h7,AtE,AtE,List.map_cons,kv_ (β:=Unit) (fun m=>decide (m<j+1)) (fun m=>decide (m<j)) (fun m=>by simp) _ _ _ _ (by simp),eq_]
theorem St.congr {w0:World} {M0:Nat→Prop} {B0:Bd} {N:Nat} {s s':DS} {a:Act} {w:World} (hf:∀ t,lkF s.f t=lkF s'.f t) (hσ:∀ t,lkE s.σ t=lkE s'.σ t) (h:St w0 M0 B0 N s a w):St w0 M0 B0 N s' a w:=by
 obtain⟨g,h⟩:=h
 have hb:∀ id,blkOf g s'.σ id=blkOf g s.σ id:=fun id=>by unfold blkOf;rw [hσ]
 have hG:Grow (g,s.σ) (g,s'.σ):=⟨fun id cs q=>⟨⟨cs,by rw [← hσ];exact q⟩,rfl⟩,fun id e n len cs q=> .inr ⟨e,n,len,cs,by rw [← hσ];exact q,Nat.le_refl _,fun _=>rfl⟩,fun id q=>by simp only at q ⊢;rw [← hσ];exact q⟩
 have hM:∀ b,Mx M0 g s'.σ b→Mx M0 g s.σ b:=by
  rintro b (q| ⟨id,q⟩)
  ·exact .inl q
  ·exact .inr ⟨id,by rw [← hb];exact q⟩
 refine⟨g,h.chg,h.m0,h.df.step (S:=fun _=>False) (Mut.refl _ w) rfl (fun _ _ e=>e.elim) (fun id b q _=>⟨id,by rw [← hb];exact q⟩),h.sz,fun t=>?_,fun id e he=>?_,fun id id' b q1 q2=>h.sep id id' b (by rw [← hb];exact q1) (by rw [← hb];exact q2),fun id b q=>h.new id b (by rw [← hb];exact q),h.anc.grow hG (fun id h1 h2=>absurd ((hσ id).symm.trans h1) h2),h.glo⟩
 ·rw [← hf]
  exact (h.tm t).step (S:=fun _=>False) (G:=some _) (G':=some _) hG (Mut.refl _ w) (fun _ _ e=>e.elim) (fun b _ q=>hM b q)
 ·have:=h.ent id e (by rw [hσ];exact he)
  cases e with
  |box cs=>
   obtain⟨vs,T,q1,q2,q3⟩:=this
   exact⟨vs,T,q1,RepL.step (S:=fun _=>False) (G:=some _) (G':=some _) hG (Mut.refl _ w) (fun _ _ e=>e.elim) (fun b _ q=>hM b q) cs vs q2,q3⟩
  |row e n len cs=>
   obtain⟨vs,q1,q2⟩:=this
   exact⟨vs,q1,RepL.step (S:=fun _=>False) (G:=some _) (G':=some _) hG (Mut.refl _ w) (fun _ _ e=>e.elim) (fun b _ q=>hM b q) cs vs q2⟩
  |dead=>trivial
def anyIn (l r:List Nat):Bool:=l.any fun x=>r.any fun y=>Nat.beq x y
def isDst (o:Option Tmp) (l:List Nat):Bool:=match o with
 |some t=>l.any fun y=>Nat.beq t y
 |none=>false
def clash (p q:Fp):Bool:=
 isDst p.dst q.rd || isDst q.dst p.rd || isDst p.dst q.dst.toList || anyIn p.we q.re || anyIn p.we q.we || anyIn q.we p.re
theorem lm_ {l r:List Nat} {x:Nat} (h1:x∈l) (h2:x∈r):anyIn l r=true:=by
 simp only [anyIn,List.any_eq_true]
 exact⟨x,h1,x,h2,by simp⟩
theorem kx_ {o:Option Tmp} {l:List Nat} {t:Nat} (h:o=some t) (h2:t∈l):isDst o l=true:=by
 subst h
 simp only [isDst,List.any_eq_true]
 exact⟨t,h2,by simp⟩
def rOk (ms:List Nat) (fps:List Fp):Bool:=
 (List.range fps.length).all fun j=>(List.range j).all fun i=>Nat.testBit (ms.getD j 0) i || (match fps[i]?,fps[j]? with
    |some p,some q=>!clash p q
    |_,_=>true)
theorem q2_ {pf:List (Operand × D)} {t:Nat} {d:D} (h:(Operand.tmp t,d)∈pf):t∈tmpsOf pf:=by
 induction pf with
 |nil=>simp at h
 |cons p r ih=>
  obtain⟨x,e⟩:=p
  rcases List.mem_cons.1 h with h|h
  ·cases h;simp [tmpsOf]
  ·have:=ih h
   cases x <;> simp [tmpsOf,this]
theorem gn_ {α:Type} {l:List (Nat × α)} {p:Nat × α} (h:p∈l):p.1∈keys l:=by
 induction l with
 |nil=>simp at h
 |cons q r ih=>
  rcases List.mem_cons.1 h with rfl|h
  ·simp [keys]
  ·simp [keys,ih h]
theorem n9_ {q:Sd} {k:Nat} (h:k∈keys q.uf):q.dst=some k:=by
 unfold Sd.uf at h
 cases hd:q.dst with
 |none=>rw [hd] at h;simp [keys] at h
 |some t=>rw [hd] at h;simp [keys] at h;rw [h]
theorem e1_ {ops:Array Oper} {L:Array Bool} (inv:DownClosed .any ops L) {i j:Nat} (hw:Waits .any ops j i) (hj:L.getD j false=true) (ho:∃ o,ops[j]?=some o):L.getD i false=true:=by
 obtain⟨f,hf⟩:=hw
 exact df_ inv f j i (fun oj hoj e he hb=>inv j oj hj hoj e he hb) hf
theorem ix_ {ops:Array Oper} {L:Array Bool} (inv:DownClosed .any ops L) {i j:Nat} (hw:Waits .any ops j i) (hj:j∈Region.ready .any ops L):L.getD i false=true:=by
 obtain⟨f,hf⟩:=hw
 obtain⟨_,o,ho,hall⟩:=mem_ready.1 hj
 exact df_ inv f j i (fun oj hoj e he hb=>hall e (by rw [ho] at hoj;cases hoj;exact he) hb) hf
theorem nq_ {ops:Array Oper} {L:Array Bool} (hr:Region.ready .any ops L=[]) (ht:((List.range ops.size).all fun i=>((ops[i]?).map fun o=>o.after.all fun e=>!Region.binds .any e || decide (e.on<i)).getD true)=true) (hL:L.size=ops.size):
  ∀ i,i<ops.size→L.getD i false=true:=by
 intro i
 induction i using Nat.strongRecOn with
 |_ i ih=>
  intro hi
  refine Classical.byContradiction fun hn=>?_
  have hf:L.getD i true=false:=by
    have hx:i<L.size:=by omega
    simp [hx] at hn ⊢
    exact hn
  have ho:ops[i]?=some ops[i]:=by simp
  have hm:i∈Region.ready .any ops L:=mem_ready.2 ⟨hf,_,ho,fun e he hb=>by
    have:=List.all_eq_true.1 ht i (List.mem_range.2 hi)
    rw [ho,Option.map_some,Option.getD_some,Array.all_eq_true] at this
    obtain⟨n,hn',rfl⟩:=Array.mem_iff_getElem.1 he
    have h1:=this n hn'
    rw [hb] at h1
    have hlt:=of_decide_eq_true (by simpa using h1:decide ((ops[i].after[n]).on<i)=true)
    exact ih _ hlt (by omega)⟩
  rw [hr] at hm;cases hm
theorem vx_ {P:Program} {Q:Exit→Act→World→Prop} {N id:Nat} {l:List Oper} {s s':DS} {qs:List Sd} (hm:P.follows .mixedOrders=true) (hseq:DSeq P N l.toArray 0 l s s' qs)
    (hok:rOk (masks .any l []) (qs.map Sd.fp)=true) (hlt:((List.range l.length).all fun i=>((l[i]?).map fun o=>o.after.all fun e=>!Region.binds .any e || decide (e.on<i)).getD true)=true)
    {w0:World} {M0:Nat→Prop} {B0:Bd} {a:Act} {w:World} (hs:St w0 M0 B0 N s a w) (hq:∀ a' w',St w0 M0 B0 N s' a' w'→Q .normal a' w'):(Code.region id l.toArray true).wpIn (FW Rnd.r) 0 P Q a w:=by
  obtain⟨f1,f2,f3,f4⟩:=hseq.facts
  have hms:=gw_ (md:= .any) (ops:=l.toArray) l [] (by simp) (by simp)
  have hclash:∀ (i j:Nat) p q,i<j→qs[i]?=some p→qs[j]?=some q→clash p.fp q.fp=true→Waits .any l.toArray j i:=by
    intro i j p q hij hi hj hc
    have hjl:j<qs.length:=(List.getElem?_eq_some_iff.1 hj).1
    have h1:=List.all_eq_true.1 hok j (by simpa using hjl)
    have h2:=List.all_eq_true.1 h1 i (List.mem_range.2 hij)
    simp only [List.getElem?_map,hi,hj,Option.map_some,hc,Bool.not_true,Bool.or_false] at h2
    exact hms j i h2
  refine hf_ (fun a0 L a' w'=>L.size=l.length∧ ∃ s1:DS,(∀ t,lkF s1.f t=AtF (fun m=>L.getD m false) qs s.f t)∧(∀ t,lkE s1.σ t=AtE (fun m=>L.getD m false) qs s.σ t)∧St w0 M0 B0 N s1 a' w') hm ?_ ?_ ?_
  · rintro L a' w' i ⟨hL,s1,g1,g2,hs1⟩ dc hi
    obtain⟨hni,o,ho,hall⟩:=mem_ready.1 hi
    have hil:i<l.length:=by have:=(Array.getElem?_eq_some_iff.1 ho).1;simpa using this
    have hnf:L.getD i false=false:=k1_ hni
    obtain⟨q,hq'⟩:∃ q,qs[i]?=some q:=⟨qs[i]'(by omega),by simp⟩
    obtain⟨hst,sj,e1,e2,e3,e4⟩:=f4 i q hq'
    have hstp:=hst (by simp)
    rw [Nat.zero_add] at hstp
    have agF :∀ t,t∈q.fp.rd→AtF (fun m=>L.getD m false) qs s.f t=AtF (fun m=>decide (m<i)) qs s.f t:=fun t ht=>by
      unfold AtF
      rw [br_ (L':=fun m=>decide (m<i)) (i':=0) (fun j u hj hk=>?_)]
      rw [Nat.zero_add]
      rw [List.getElem?_map] at hj
      obtain⟨p,hp,rfl⟩:=Option.map_eq_some_iff.1 hj
      have hd:=n9_ hk
      rcases Nat.lt_trichotomy j i with h|h|h
      · have hw:=hclash j i p q h hp hq' (by simp only [clash,Sd.fp];rw [kx_ (l:=tmpsOf q.pf) hd ht];simp)
        rw [ix_ dc hw hi];simp [h]
      ·subst h;rw [hnf];simp
      · have hw:=hclash i j q p h hq' hp (by simp only [clash,Sd.fp];rw [kx_ (l:=tmpsOf q.pf) hd ht];simp)
        have :L.getD j false=false:=by
          cases hj2:L.getD j false with
          |false=>rfl
          | true=>
            have:=e1_ dc hw hj2 ⟨l[j]'(by have:=(List.getElem?_eq_some_iff.1 hp).1;omega),by simp⟩
            rw [hnf] at this;cases this
        rw [this];simp;omega
    have agE :∀ t,t∈q.fp.re→AtE (fun m=>L.getD m false) qs s.σ t=AtE (fun m=>decide (m<i)) qs s.σ t:=fun t ht=>by
      unfold AtE
      rw [br_ (L':=fun m=>decide (m<i)) (i':=0) (fun j u hj hk=>?_)]
      rw [Nat.zero_add]
      rw [List.getElem?_map] at hj
      obtain⟨p,hp,rfl⟩:=Option.map_eq_some_iff.1 hj
      rcases Nat.lt_trichotomy j i with h|h|h
      · have hw:=hclash j i p q h hp hq' (by simp only [clash,Sd.fp];rw [lm_ (r:=keys q.pe) hk ht];simp)
        rw [ix_ dc hw hi];simp [h]
      ·subst h;rw [hnf];simp
      · have hw:=hclash i j q p h hq' hp (by simp only [clash,Sd.fp];rw [lm_ (r:=keys q.pe) hk ht];simp)
        have :L.getD j false=false:=by
          cases hj2:L.getD j false with
          |false=>rfl
          | true=>
            have:=e1_ dc hw hj2 ⟨l[j]'(by have:=(List.getElem?_eq_some_iff.1 hp).1;omega),by simp⟩
            rw [hnf] at this;cases this
        rw [this];simp;omega
    have hset:∀ m,(L.setIfInBounds i true).getD m false=if m=i then true else L.getD m false:=fun m=>cr_ (n:=l.length) hL hil m false
    have later:∀ (j:Nat) p,i<j→qs[j]?=some p→clash q.fp p.fp=true→(L.setIfInBounds i true).getD j false=false:=fun j p h hp hc=>by
      have hw:=hclash i j q p h hq' hp hc
      rw [hset,if_neg (by omega)]
      cases hj2:L.getD j false with
      |false=>rfl
      | true=>
        have:=e1_ dc hw hj2 ⟨l[j]'(by have:=(List.getElem?_eq_some_iff.1 hp).1;omega),by simp⟩
        rw [hnf] at this;cases this
    refine hstp w0 M0 B0 s1 a' w' _ _ (Evs.of fun p hp=>?_) (Ens.of fun p hp=>?_) hs1 (fun a2 w2 h2=>⟨by simpa using hL,_,fun t=>?_,fun t=>?_,h2⟩)
    · obtain⟨x,d⟩:=p
      have:=e1.mem _ hp
      cases x with
      | tmp t=>
        simp only [evalD] at this ⊢
        rw [g1,agF t (q2_ hp),← e3];exact this
      |const v=>exact this
      |global v=>exact this
      |func v=>exact this
    · have:=e2.mem _ hp
      rw [g2,agE _ (gn_ hp),← e4];exact this
    · simp only [lb_,n4_,g1,AtF]
      by_cases hk:t∈keys q.uf
      · obtain⟨x,hx⟩:=gu_ hk
        have hd:=n9_ hk
        rw [g0_ (L:=fun m=>(L.setIfInBounds i true).getD m false) (us:=qs.map Sd.uf) (b:=0) (i:=i) (u:=q.uf) (x:=x) (by simp [hq']) hx (by rw [Nat.zero_add,hset,if_pos rfl]) (fun j v hj hv hkv=>?_),hx]
        ·rfl
        · rw [List.getElem?_map] at hv
          obtain⟨p,hp,rfl⟩:=Option.map_eq_some_iff.1 hv
          rw [Nat.zero_add]
          exact later j p hj hp (by simp only [clash,Sd.fp];rw [kx_ (l:=p.dst.toList) hd (by rw [n9_ hkv];simp)];simp)
      · rw [gc_ hk,Option.getD_none,br_ (L':=fun m=>(L.setIfInBounds i true).getD m false) (i':=0) (fun j u hj hkj=>?_)]
        rw [Nat.zero_add,hset]
        by_cases e:j=i
        · subst e
          simp only [List.getElem?_map,hq',Option.map_some,Option.some.injEq] at hj
          subst hj
          exact absurd hkj hk
        ·rw [if_neg e]
    · simp only [eq_,g2,AtE]
      by_cases hk:t∈keys q.we
      · obtain⟨x,hx⟩:=gu_ hk
        rw [g0_ (L:=fun m=>(L.setIfInBounds i true).getD m false) (us:=qs.map Sd.we) (b:=0) (i:=i) (u:=q.we) (x:=x) (by simp [hq']) hx (by rw [Nat.zero_add,hset,if_pos rfl]) (fun j v hj hv hkv=>?_),hx]
        ·rfl
        · rw [List.getElem?_map] at hv
          obtain⟨p,hp,rfl⟩:=Option.map_eq_some_iff.1 hv
          rw [Nat.zero_add]
          exact later j p hj hp (by simp only [clash,Sd.fp];rw [lm_ hk hkv];simp)
      · rw [gc_ hk,Option.getD_none,br_ (L':=fun m=>(L.setIfInBounds i true).getD m false) (i':=0) (fun j u hj hkj=>?_)]
        rw [Nat.zero_add,hset]
        by_cases e:j=i
        · subst e
          simp only [List.getElem?_map,hq',Option.map_some,Option.some.injEq] at hj
          subst hj
          exact absurd hkj hk
        ·rw [if_neg e]
  · rintro L a' w' ⟨hL,s1,g1,g2,hs1⟩ hr
    have hall:=nq_ (ops:=l.toArray) hr (by simpa using hlt) (by simpa using hL)
    refine (hq _ _ (St.congr (fun t=>?_) (fun t=>?_) hs1))
    · rw [g1,f2,AtF,AtF,br_ (L':=fun _=>true) (i':=0) (fun j u hj _=>?_)]
      rw [Nat.zero_add]
      exact hall j (by have:=(List.getElem?_eq_some_iff.1 hj).1;simp at this ⊢;omega)
    · rw [g2,f3,AtE,AtE,br_ (L':=fun _=>true) (i':=0) (fun j u hj _=>?_)]
      rw [Nat.zero_add]
      exact hall j (by have:=(List.getElem?_eq_some_iff.1 hj).1;simp at this ⊢;omega)
  · refine⟨by simp,s,fun t=>?_,fun t=>?_,?_⟩
    ·rw [AtF,eg_ (fun m=>b3_ _ _)];rfl
    ·rw [AtE,eg_ (fun m=>b3_ _ _)];rfl
    · obtain⟨g,h⟩:=hs
      exact⟨g,h.chg.drew,h.m0,h.df.step (S:=fun _=>False) (Mut.refl _ w).drew rfl (fun _ _ e=>e.elim) (fun id b q _=>⟨id,q⟩),h.sz,fun t=>(h.tm t).fix (Mut.refl _ w).drew,h.entFix (Mut.refl _ w).drew,h.sep,h.new,h.anc,h.glo⟩
end Go.Dm
