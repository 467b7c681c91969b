/- A region that draws its order, walked by what holds after each set of its operations. No condition. -/
import Derived.Test.YtichhfbkhnimmaaUD
import Derived.OrdersIn
import Derived.TacticsIn
import Derived.RangeFuncKeeps
import Derived.RangeFuncLeaves
set_option linter.unusedSimpArgs false
set_option linter.unusedVariables false
set_option maxHeartbeats 400000
namespace Go.PP
open Go Go.RowKit
theorem h3_ {p q:Nat→Bool} {i:Nat} (hp:p i=true) (hq:q i=false) (h:∀ j,j≠i→q j=p j):∀ n,i<n→(List.range n).countP q<(List.range n).countP p
 |0,hi=>absurd hi (by omega)
 |n+    1,hi=>by
  rw [List.range_succ,List.countP_append,List.countP_append]
  rcases Nat.lt_or_ge i n with e|e
  ·have:=h3_ hp hq h n e
   rw [List.countP_singleton,List.countP_singleton,h n (by omega)]
   omega
  ·obtain rfl:i=n:=by omega
   have  :(List.range i).countP q=(List.range i).countP p:=List.countP_congr fun x hx=>by
        rw [List.mem_range] at hx
        rw [h x (by omega)]
   rw [this,List.countP_singleton,List.countP_singleton,hp,hq]
   simp
section
variable {P:Program} {md:Region.Mode} {ops:Array Oper} {Q:Exit→Act→World→Prop}
end
theorem cr_ {L:Array Bool} {n i:Nat} (hL:L.size=n) (hi:i<n) (j:Nat) (d:Bool):(L.setIfInBounds i true).getD j d=if j=i then true else L.getD j d:=by
 subst hL
 by_cases e:j=i
 ·subst e;simp [Array.getElem?_setIfInBounds,hi]
 ·simp [Array.getElem?_setIfInBounds,show ¬ i=j from fun h=>e h.symm,e]
def Var (n:Nat) (wb:World) (u:Value) (w:World):Prop:= ∃ b cs T,u= .pointer (some ⟨b,0,none⟩)∧wb.heap.size≤b∧w.heap[b]?=some (.cells cs T (0,0))∧cs.size=n
def Held (u v:Value) (w:World):Prop:= ∃ b cs,u= .pointer (some ⟨b,0,none⟩)∧v= .agg cs∧ ∀ (i:Nat) x,cs[i]?=some x→w.cell? ⟨b,i,none⟩=some x
theorem Var.fix {n:Nat} {wb:World} {u:Value} {w w':World} (h:Var n wb u w) (m:Fix w w'):Var n wb u w':=by
 obtain⟨b,cs,T,h1,h2,h3,h4⟩:=h
 exact⟨b,cs,T,h1,h2,m.heap h3 (by simp),h4⟩
theorem Held.fix {u v:Value} {w w':World} (h:Held u v w) (m:Fix w w'):Held u v w':=by
 obtain⟨b,cs,h1,h2,h3⟩:=h
 exact⟨b,cs,h1,h2,fun i x hx=>m.cell (h3 i x hx) (by simp)⟩
theorem Var.alloc (n:Nat) (wb w:World) (cs:Array Value) (T:Nat) (hz:wb.heap.size≤w.heap.size) (hn:cs.size=n):Var n wb (.pointer (some ⟨w.heap.size,0,none⟩)) (w.alloc (.cells cs T)):=
 ⟨w.heap.size,cs,T,rfl,hz,heap_alloc_new w _,hn⟩
theorem Var.lt {n:Nat} {wb:World} {b:Nat} {w:World} (h:Var n wb (.pointer (some ⟨b,0,none⟩)) w):b<w.heap.size:=by
 obtain⟨b',cs,T,h1,h2,h3,h4⟩:=h
 simp only [Value.pointer.injEq,Option.some.injEq,Addr.mk.injEq,and_true] at h1
 subst h1
 exact (Array.getElem?_eq_some_iff.1 h3).1
theorem Var.cell {n:Nat} {wb:World} {b:Nat} {w:World} (h:Var n wb (.pointer (some ⟨b,0,none⟩)) w) {i:Nat} (hi:i<n):∃ x,w.cell? ⟨b,i,none⟩=some x∧w.frozen? ⟨b,i,none⟩=false:=by
 obtain⟨b',cs,T,h1,h2,h3,h4⟩:=h
 simp only [Value.pointer.injEq,Option.some.injEq,Addr.mk.injEq,and_true] at h1
 subst h1
 exact⟨cs[i]'(by omega),by simp [World.cell?,h3,h4,hi],by simp [World.frozen?,h3]⟩
theorem Var.set {n:Nat} {wb:World} {u:Value} {w:World} (h:Var n wb u w) (a:Addr) (x:Value):Var n wb u (w.setCell a x):=by
 obtain⟨b,cs,T,h1,h2,h3,h4⟩:=h
 by_cases e:a.block=b
 ·obtain⟨ab,ao,sp⟩:=a
  cases e
  by_cases hs:sp=none
  ·subst hs
   exact⟨ab,cs.setIfInBounds ao x,T,h1,h2,by simp [World.setCell,Array.getElem?_modify,h3],by simpa using h4⟩
  ·refine⟨ab,if sp.isNone then cs.setIfInBounds ao x else cs,T,h1,h2,?_,by split <;> simpa using h4⟩
   cases sp with
   |none=>exact absurd rfl hs
   |some q=>simp [World.setCell,Array.getElem?_modify,h3]
 ·exact⟨b,cs,T,h1,h2,by rw [Below.heap_setCell _ _ _ _ (by simpa using fun q=>e q.symm)];exact h3,h4⟩
structure Stays (G:(Nat→Prop)→World→Value→Prop):Prop where
 stay:∀ {M S:Nat→Prop} {w w':World} {v:Value},G M w v→Mut S w w'→(∀ b,b<w.heap.size→S b→M b)→G M w' v
 mono:∀ {M M':Nat→Prop} {w:World} {v:Value},G M w v→(∀ b,b<w.heap.size→M' b→M b)→G M' w v
def Vars (L:Array Bool) (us:List (Nat × Value)) (b:Nat):Prop:= ∃ p∈us,L.getD p.1 false=true∧p.2= .pointer (some ⟨b,0,none⟩)
def putAll (a:Act):List Nat→List Value→Act
 |k::ks,v::vs=>putAll (a.put (some k) v) ks vs
 |_,_=>a
structure M2 (wb:World) (slots:List Nat) (A1 A2:Value) (G1 G2:(Nat→Prop)→World→Value→Prop) (n1 n2:Nat) (a0:Act) (L:Array Bool) (a:Act) (w:World) (u1 u2 u3 u4 u5 u6:Value):Prop where
 act:a=putAll a0 slots [u1,u2,u3,u4,u5,u6]
 size:L.size=8
 fix:Fix wb w
 h0:L.getD 0 false=true→u1=A1
 h1:L.getD 1 false=true→G1 (Vars L [(4,u5),(5,u6)]) w u2
 h2:L.getD 2 false=true→u3=A2
 h3:L.getD 3 false=true→G2 (Vars L [(4,u5),(5,u6)]) w u4
 h4:L.getD 4 false=true→Var n1 wb u5 w
 h5:L.getD 5 false=true→Var n2 wb u6 w
 ne:L.getD 4 false=true→L.getD 5 false=true→u5≠u6
 h6:L.getD 6 false=true→Held u5 u2 w
 h7:L.getD 7 false=true→Held u6 u4 w
 ord:L.getD 7 false=true→L.getD 6 false=true
section
variable {wb:World} {slots:List Nat} {A1 A2:Value} {G1 G2:(Nat→Prop)→World→Value→Prop} {n1 n2:Nat} {a0:Act} {L:Array Bool} {a:Act} {w w':World} {u1 u2 u3 u4 u5 u6:Value}
theorem dt_ {i:Nat} (hL:L.size=8) (hi:i<8) (h4:i≠4) (h5:i≠5) {x y:Value} {b:Nat} (h:Vars (L.setIfInBounds i true) [(4,x),(5,y)] b):Vars L [(4,x),(5,y)] b:=by
 obtain⟨p,hp,h1,h2⟩:=h
 refine⟨p,hp,?_,h2⟩
 simp at hp
 rw [cr_ hL hi] at h1
 rcases hp with rfl|rfl
 ·simpa [show ¬ (4:Nat)=i from fun e=>h4 e.symm] using h1
 ·simpa [show ¬ (5:Nat)=i from fun e=>h5 e.symm] using h1
theorem M2.s0 (h:M2 wb slots A1 A2 G1 G2 n1 n2 a0 L a w u1 u2 u3 u4 u5 u6) (g1:Stays G1) (g2:Stays G2) {a':Act} (ha:a'=putAll a0 slots [A1,u2,u3,u4,u5,u6]) (hn:L.getD 1 false=false):
  M2 wb slots A1 A2 G1 G2 n1 n2 a0 (L.setIfInBounds 0 true) a' w A1 u2 u3 u4 u5 u6:=by
 have e:=fun j=>cr_ (L:=L) (n:=8) (i:=0) h.size (by omega) j false
 refine⟨ha,by simpa using h.size,h.fix,fun _=>rfl,fun q=>?_,fun q=>h.h2 ?_,fun q=>?_,fun q=>h.h4 ?_,fun q=>h.h5 ?_,fun q q'=>h.ne ?_ ?_,fun q=>h.h6 ?_,fun q=>h.h7 ?_,fun q=>?_⟩
 ·rw [e] at q;simp [hn] at q
 ·rw [e] at q;simpa using q
 ·rw [e] at q;exact g2.mono (h.h3 (by simpa using q)) (fun b _ hb=>dt_ h.size (by omega) (by omega) (by omega) hb)
 ·rw [e] at q;simpa using q
 ·rw [e] at q;simpa using q
 ·rw [e] at q;simpa using q
 ·rw [e] at q';simpa using q'
 ·rw [e] at q;simpa using q
 ·rw [e] at q;simpa using q
 ·rw [e] at q ⊢;simpa using h.ord (by simpa using q)
theorem M2.s2 (h:M2 wb slots A1 A2 G1 G2 n1 n2 a0 L a w u1 u2 u3 u4 u5 u6) (g1:Stays G1) (g2:Stays G2) {a':Act} (ha:a'=putAll a0 slots [u1,u2,A2,u4,u5,u6]):
  M2 wb slots A1 A2 G1 G2 n1 n2 a0 (L.setIfInBounds 2 true) a' w u1 u2 A2 u4 u5 u6:=by
 have e:=fun j=>cr_ (L:=L) (n:=8) (i:=2) h.size (by omega) j false
 refine⟨ha,by simpa using h.size,h.fix,fun q=>h.h0 ?_,fun q=>?_,fun q=>rfl,fun q=>?_,fun q=>h.h4 ?_,fun q=>h.h5 ?_,fun q q'=>h.ne ?_ ?_,fun q=>h.h6 ?_,fun q=>h.h7 ?_,fun q=>?_⟩
 ·rw [e] at q;simpa using q
 ·rw [e] at q;exact g1.mono (h.h1 (by simpa using q)) (fun b _ hb=>dt_ h.size (by omega) (by omega) (by omega) hb)
 ·rw [e] at q;exact g2.mono (h.h3 (by simpa using q)) (fun b _ hb=>dt_ h.size (by omega) (by omega) (by omega) hb)
 ·rw [e] at q;simpa using q
 ·rw [e] at q;simpa using q
 ·rw [e] at q;simpa using q
 ·rw [e] at q';simpa using q'
 ·rw [e] at q;simpa using q
 ·rw [e] at q;simpa using q
 ·rw [e] at q ⊢;simpa using h.ord (by simpa using q)
theorem se_ (h:M2 wb slots A1 A2 G1 G2 n1 n2 a0 L a w u1 u2 u3 u4 u5 u6) {b:Nat} (hb:Vars L [(4,u5),(5,u6)] b):b<w.heap.size:=by
 obtain⟨p,hp,q1,q2⟩:=hb
 simp at hp
 rcases hp with rfl|rfl
 ·have:=h.h4 q1
  rw [show u5=_ from q2] at this;exact this.lt
 ·have:=h.h5 q1
  rw [show u6=_ from q2] at this;exact this.lt
theorem M2.s1 (h:M2 wb slots A1 A2 G1 G2 n1 n2 a0 L a w u1 u2 u3 u4 u5 u6) (g1:Stays G1) (g2:Stays G2) (m:Fix w w') {v:Value} (hv:G1 (fun b=>b<w.heap.size) w' v) {a':Act} (ha:a'=putAll a0 slots [u1,v,u3,u4,u5,u6]) (hn:L.getD 6 false=false):
  M2 wb slots A1 A2 G1 G2 n1 n2 a0 (L.setIfInBounds 1 true) a' w' u1 v u3 u4 u5 u6:=by
 have e:=fun j=>cr_ (L:=L) (n:=8) (i:=1) h.size (by omega) j false
 refine⟨ha,by simpa using h.size,h.fix.trans m,fun q=>h.h0 ?_,fun q=>?_,fun q=>h.h2 ?_,fun q=>?_,fun q=>(h.h4 ?_).fix m,fun q=>(h.h5 ?_).fix m,fun q q'=>h.ne ?_ ?_,fun q=>?_,fun q=>(h.h7 ?_).fix m,fun q=>?_⟩
 ·rw [e] at q;simpa using q
 ·exact g1.mono hv (fun b _ hb=>se_ h (dt_ h.size (by omega) (by omega) (by omega) hb))
 ·rw [e] at q;simpa using q
 ·rw [e] at q;exact g2.mono (g2.stay (h.h3 (by simpa using q)) m (by simp)) (fun b _ hb=>dt_ h.size (by omega) (by omega) (by omega) hb)
 ·rw [e] at q;simpa using q
 ·rw [e] at q;simpa using q
 ·rw [e] at q;simpa using q
 ·rw [e] at q';simpa using q'
 ·rw [e] at q;simp [hn] at q
 ·rw [e] at q;simpa using q
 ·rw [e] at q ⊢;simpa using h.ord (by simpa using q)
theorem M2.s3 (h:M2 wb slots A1 A2 G1 G2 n1 n2 a0 L a w u1 u2 u3 u4 u5 u6) (g1:Stays G1) (g2:Stays G2) (m:Fix w w') {v:Value} (hv:G2 (fun b=>b<w.heap.size) w' v) {a':Act} (ha:a'=putAll a0 slots [u1,u2,u3,v,u5,u6]) (hn:L.getD 7 false=false):
  M2 wb slots A1 A2 G1 G2 n1 n2 a0 (L.setIfInBounds 3 true) a' w' u1 u2 u3 v u5 u6:=by
 have e:=fun j=>cr_ (L:=L) (n:=8) (i:=3) h.size (by omega) j false
 refine⟨ha,by simpa using h.size,h.fix.trans m,fun q=>h.h0 ?_,fun q=>?_,fun q=>h.h2 ?_,fun q=>?_,fun q=>(h.h4 ?_).fix m,fun q=>(h.h5 ?_).fix m,fun q q'=>h.ne ?_ ?_,fun q=>(h.h6 ?_).fix m,fun q=>?_,fun q=>?_⟩
 ·rw [e] at q;simpa using q
 ·rw [e] at q;exact g1.mono (g1.stay (h.h1 (by simpa using q)) m (by simp)) (fun b _ hb=>dt_ h.size (by omega) (by omega) (by omega) hb)
 ·rw [e] at q;simpa using q
 ·exact g2.mono hv (fun b _ hb=>se_ h (dt_ h.size (by omega) (by omega) (by omega) hb))
 ·rw [e] at q;simpa using q
 ·rw [e] at q;simpa using q
 ·rw [e] at q;simpa using q
 ·rw [e] at q';simpa using q'
 ·rw [e] at q;simpa using q
 ·rw [e] at q;simp [hn] at q
 ·rw [e] at q ⊢;simpa using h.ord (by simpa using q)
end
end Go.PP
namespace Go.Dm
open Go Go.RowKit Go.PP
class Rnd where
 r:Option Nat
instance (priority:=low) rndNone:Rnd:=⟨none⟩
def FW (r:Option Nat):Fence:={ Fence.wide with round:=r }
theorem FW.fn (r:Option Nat) (f:FuncId):(FW r).fn f:=trivial
theorem FW.room (r:Option Nat) (n:Nat):(FW r).room n:=room_wide n
theorem FW.depth (r:Option Nat):(FW r).depth.isSome=true→False:=fun h=>by simp [FW,Fence.wide] at h
section
variable {P:Program} {r:Option Nat} {n m:Nat} {a:Act} {w:World}
theorem callsFW {f:FuncId} {args:Array Value} {R:Ending→World→Prop}:CallsIn (FW r) n P f args w R↔Calls P f args w R:=callsIn_wide (n:=n)
theorem sh_ {ρ:Operand→Value} {o:Oper} {x:Next} {w':World} (h:(execOp ρ o).run P w= .ok x w') (hx:∀ d,x≠ .defer d):∀ c,o.op≠ .defer c:=by
 intro c hc
 unfold execOp at h
 simp only [hc,Sem.run_bind] at h
 cases hr:(resolve ρ c o.type).run P w with
 |ok d w1=>
  rw [hr] at h
  simp only [Result.andThen_ok,Sem.run_pure] at h
  cases h
  exact hx _ rfl
 |halt y w1=>
  rw [hr] at h
  cases h
theorem semFW {ρ:Operand→Value} {o:Oper} {x:Next} {w':World} (h:(execOp ρ o).run P w= .ok x w') (hx:∀ d,x≠ .defer d):(o.semAt r ρ).run P w= .ok x w':=by
 rw [Oper.semAt_eq r ρ o (sh_ h hx)];exact h
theorem cy_ {o:Oper} {v:Value} {w':World} {next:Act→World→Prop} {Q:Exit→Act→World→Prop} (h:(execOp a.eval o).run P w= .ok (.value v) w') (hk:next (a.put o.dst v) w'):o.wpIn (FW r) n P a w next Q:=by
 refine⟨fun f _=>trivial,?_⟩
 have e:(o.semAt (FW r).round a.eval).run P w= .ok (.value v) w':=semFW h (fun d e=>by cases e)
 rw [e]
 exact hk
theorem iq_ {o:Oper} {w':World} {next:Act→World→Prop} {Q:Exit→Act→World→Prop} (h:(execOp a.eval o).run P w= .ok .skip w') (hk:next (a.put o.dst undef) w'):o.wpIn (FW r) n P a w next Q:=by
 refine⟨fun f _=>trivial,?_⟩
 have e:(o.semAt (FW r).round a.eval).run P w= .ok .skip w':=semFW h (fun d e=>by cases e)
 rw [e]
 exact hk
theorem j7_ {o:Oper} {f:FuncId} {args:Array Value} {w':World} {next:Act→World→Prop} {Q:Exit→Act→World→Prop} (h:(execOp a.eval o).run P w= .ok (.enter f args) w')
  (hk:Calls P f args w' fun x w''=>match x,w'' with
   | .returned v,w''=>next (a.put o.dst v) w''
   | .panicked chain,w''=>Q (.panic chain) a w''
   | .outgrown,_=>LetsOut Q):o.wpIn (FW r) n P a w next Q:=by
 refine⟨fun f _=>trivial,?_⟩
 have e:(o.semAt (FW r).round a.eval).run P w= .ok (.enter f args) w':=semFW h (fun d e=>by cases e)
 rw [e]
 exact⟨fun e=>(FW.depth r e).elim,callsFW.2 hk⟩
end
section
variable {F:Fence} {n:Nat} {P:Program} {md:Region.Mode} {ops:Array Oper} {Q:Exit→Act→World→Prop}
theorem jd_ (Inv:Array Bool→Act→World→Prop)
  (hstep:∀ (L:Array Bool) (a:Act) (w:World) (i:Nat),Inv L a w→i∈Region.ready md ops L→wpOpIn F n P ops Q i (fun a' w'=>Inv (L.setIfInBounds i true) a' w') a w)
  (hend:∀ (L:Array Bool) (a:Act) (w:World),Inv L a w→(∀ i,i<ops.size→L.getD i true=false→i ∉ Region.ready md ops L)→Region.ready md ops L=[]→Q .normal a w):
  ∀ (fuel:Nat) (L:Array Bool) (a:Act) (w:World),L.size=ops.size→(List.range ops.size).countP (fun i=>!L.getD i true)≤fuel→Inv L a w→wpAnyIn F n P md ops Q fuel L a w
 |0,L,a,w,hL,hc,h=>by
  have hr:Region.ready md ops L=[]:=by
   refine List.eq_nil_iff_forall_not_mem.2 fun i hi=>?_
   obtain⟨h1,o,h2,_⟩:=mem_ready.1 hi
   have hlt:=(Array.getElem?_eq_some_iff.1 h2).1
   have:(List.range ops.size).countP (fun i=>!L.getD i true)=0:=by omega
   rw [List.countP_eq_zero] at this
   exact this i (List.mem_range.2 hlt) (by rw [h1];rfl)
  exact⟨hr,hend L a w h (fun i _ _ hi=>by rw [hr] at hi;cases hi) hr⟩
 |fuel+1,L,a,w,hL,hc,h=>by
  refine⟨fun hr=>hend L a w h (fun i _ _ hi=>by rw [hr] at hi;cases hi) hr,fun i hi=>?_⟩
  obtain⟨h1,o,h2,_⟩:=mem_ready.1 hi
  have hlt:=(Array.getElem?_eq_some_iff.1 h2).1
  have hless:=h3_ (p:=fun i=>!L.getD i true) (q:=fun j=>!(L.setIfInBounds i true).getD j true) (i:=i) (by rw [h1];rfl)
   (by simp [Array.getElem?_setIfInBounds,hL,hlt]) (fun j hj=>by simp [Array.getElem?_setIfInBounds,show ¬ i=j from fun e=>hj e.symm]) ops.size hlt
  exact wpOpIn_mono (fun a' w' h'=>jd_ Inv hstep hend fuel _ a' w' (by simpa using hL) (by omega) h') (hstep L a w i h hi)
theorem if_ {id:Nat} {a:Act} {w:World} {l:List Oper} (Inv:Array Bool→Act→World→Prop) (hm:P.follows .mixedOrders=true)
  (hstep:∀ (L:Array Bool) (a:Act) (w:World) (i:Nat),Inv L a w→i∈Region.ready .any l.toArray L→wpOpIn F n P l.toArray Q i (fun a' w'=>Inv (L.setIfInBounds i true) a' w') a w)
  (hend:∀ (L:Array Bool) (a:Act) (w:World),Inv L a w→Region.ready .any l.toArray L=[]→Q .normal a w)
  (h0:Inv (Array.replicate l.length false) a w.drew):(Code.region id l.toArray true).wpIn F n P Q a w:=by
 refine wpIn_region_any hm (jd_ Inv hstep (fun L a w h _ hr=>hend L a w h hr) _ _ _ _ (by simp) ?_ (by simpa using h0))
 refine Nat.le_trans List.countP_le_length (by simp)
theorem hf_ {id:Nat} {a:Act} {w:World} {l:List Oper} (Inv:Act→Array Bool→Act→World→Prop) (hm:P.follows .mixedOrders=true)
  (hstep:∀ (L:Array Bool) (a':Act) (w:World) (i:Nat),Inv a L a' w→DownClosed .any l.toArray L→i∈Region.ready .any l.toArray L→wpOpIn F n P l.toArray Q i (fun a'' w'=>Inv a (L.setIfInBounds i true) a'' w') a' w)
  (hend:∀ (L:Array Bool) (a':Act) (w:World),Inv a L a' w→Region.ready .any l.toArray L=[]→Q .normal a' w)
  (h0:Inv a (Array.replicate l.length false) a w.drew):(Code.region id l.toArray true).wpIn F n P Q a w:=
 if_ (fun L a' w=>Inv a L a' w∧DownClosed .any l.toArray L) hm (fun L a' w i h hi=>wpOpIn_mono (fun a'' w' h'=>⟨h',h.2.set hi⟩) (hstep L a' w i h.1 h.2 hi)) (fun L a' w h hr=>hend L a' w h.1 hr) ⟨h0,DownClosed.none _ _ _⟩
end
end Go.Dm
