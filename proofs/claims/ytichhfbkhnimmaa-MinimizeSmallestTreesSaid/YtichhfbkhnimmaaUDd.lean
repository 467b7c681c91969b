/- A machine over data: code, calls, results. No condition. -/
import Derived.Test.YtichhfbkhnimmaaUB
set_option linter.unusedSimpArgs false
set_option linter.unusedVariables false
set_option linter.unusedSectionVars false
set_option maxHeartbeats 400000
namespace Go.Dm
open Go Go.RowKit Go.PP
variable [GlobW]
section
variable [Rnd]
structure DW (P:Program) (N:Nat) (c:Code) (s:DS) (Q:Exit→DS→Prop):Prop where
 intro::
 go:∀ (w0:World) (M0:Nat→Prop) (B0:Bd) (a:Act) (w:World),St w0 M0 B0 N s a w→c.wpIn (FW Rnd.r) 0 P (fun e a' w'=> ∃ s',Q e s'∧St w0 M0 B0 N s' a' w') a w
def Thn (R:DS→Prop) (Q:Exit→DS→Prop):Exit→DS→Prop
 | .normal,s=>R s
 |e,s=>Q e s
def Blk (id:Nat) (Q:Exit→DS→Prop):Exit→DS→Prop
 | .exit id',s=>if id'=id then Q .normal s else Q (.exit id') s
 |e,s=>Q e s
section
variable {P:Program} {N:Nat} {Q:Exit→DS→Prop} {s s':DS}
theorem DW.mono {c:Code} {Q':Exit→DS→Prop} (h:DW P N c s Q) (hq:∀ e s,Q e s→Q' e s):DW P N c s Q':=
 ⟨fun w0 M0 B0 a w hs=>wpIn_mono (h.go w0 M0 B0 a w hs) fun e a w ⟨s',q,r⟩=>⟨s',hq _ _ q,r⟩⟩
theorem DW.skip (h:Q .normal s):DW P N .skip s Q:=⟨fun w0 M0 B0 a w hs=>wpIn_skip ⟨s,h,hs⟩⟩
theorem DW.label {l:Nat} (h:Q .normal s):DW P N (.label l) s Q:=⟨fun w0 M0 B0 a w hs=>wpIn_label ⟨s,h,hs⟩⟩
theorem DW.exit {id:Nat} (h:Q (.exit id) s):DW P N (.exit id) s Q:=⟨fun w0 M0 B0 a w hs=>wpIn_exit ⟨s,h,hs⟩⟩
theorem DW.ret (h:Q .ret s):DW P N .ret s Q:=⟨fun w0 M0 B0 a w hs=>wpIn_ret ⟨s,h,hs⟩⟩
theorem DW.seq {x y:Code} (h:DW P N x s (Thn (fun s'=>DW P N y s' Q) Q)):DW P N (.seq x y) s Q:=⟨fun w0 M0 B0 a w hs=>
 wpIn_seq (wpIn_mono (h.go w0 M0 B0 a w hs) fun e a' w' ⟨s',q,r⟩=>by
  cases e with
  |normal=>exact q.go w0 M0 B0 a' w' r
  |exit id=>exact⟨s',q,r⟩
  |goto l=>exact⟨s',q,r⟩
  |ret=>exact⟨s',q,r⟩
  |panic c=>exact⟨s',q,r⟩
  |outgrown=>exact⟨s',q,r⟩)⟩
theorem DW.block {id:Nat} {c:Code} (h:DW P N c s (Blk id Q)):DW P N (.block id c) s Q:=⟨fun w0 M0 B0 a w hs=>
 wpIn_block (wpIn_mono (h.go w0 M0 B0 a w hs) fun e a' w' ⟨s',q,r⟩=>by
  cases e with
  |normal=>exact⟨s',q,r⟩
  |exit id'=>
   simp only [Exit.inBlock,Blk] at q ⊢
   split
   ·rename_i e;rw [if_pos e] at q;exact⟨s',q,r⟩
   ·rename_i e;rw [if_neg e] at q;exact⟨s',q,r⟩
  |goto l=>exact⟨s',q,r⟩
  |ret=>exact⟨s',q,r⟩
  |panic c=>exact⟨s',q,r⟩
  |outgrown=>exact⟨s',q,r⟩)⟩
theorem evalBool {w0:World} {M0:Nat→Prop} {B0:Bd} {a:Act} {w:World} (hs:St w0 M0 B0 N s a w) {x:Operand} {v:Value} (hx:evalD s.f x= .flat v):a.eval x=v:=by
 obtain⟨g,hs⟩:=hs
 have:=hs.eval x
 rw [hx] at this
 simpa only [Rep] using this
theorem DW.cond {c:Operand} {x y:Code} {t:Bool} (hc:evalD s.f c= .flat (.bool t)) (ht:t=true→DW P N x s Q) (hf:t=false→DW P N y s Q):DW P N (.cond c x y) s Q:=⟨fun w0 M0 B0 a w hs=>
 wpIn_cond_split (evalBool hs hc) (fun e=>(ht e).go w0 M0 B0 a w hs) (fun e=>(hf e).go w0 M0 B0 a w hs)⟩
theorem DW.condT {c:Operand} {x y:Code} (hc:evalD s.f c= .flat (.bool true)) (h:DW P N x s Q):DW P N (.cond c x y) s Q:=DW.cond hc (fun _=>h) (fun e=>by cases e)
theorem DW.condF {c:Operand} {x y:Code} (hc:evalD s.f c= .flat (.bool false)) (h:DW P N y s Q):DW P N (.cond c x y) s Q:=DW.cond hc (fun e=>by cases e) (fun _=>h)
theorem DW.region {id:Nat} {l:List Oper} {qs:List Sd} (h:DSeq P N l.toArray 0 l s s' qs) (hq:Q .normal s'):DW P N (.region id l.toArray false) s Q:=⟨fun w0 M0 B0 a w hs=>
 wpIn_region (by
  rw [List.range_eq_range']
  exact n8_ h a w (fun j=>by simp) hs (fun a' w' h'=>⟨s',hq,h'⟩))⟩
theorem DW.drawn {id:Nat} {l:List Oper} {qs:List Sd} (h:DSeq P N l.toArray 0 l s s' qs) (hm:P.follows .mixedOrders=true) (hok:rOk (masks .any l []) (qs.map Sd.fp)=true)
  (hlt:((List.range l.length).all fun i=>((l[i]?).map fun o=>o.after.all fun e=>!Region.binds .any e || decide (e.on<i)).getD true)=true) (hq:Q .normal s'):DW P N (.region id l.toArray true) s Q:=⟨fun w0 M0 B0 a w hs=>
 vx_ hm h hok hlt hs (fun a' w' h'=>⟨s',hq,h'⟩)⟩
def Sub (N:Nat) (s s':DS):Prop:= ∀ (w0:World) (M0:Nat→Prop) (B0:Bd) (a:Act) (w:World),St w0 M0 B0 N s a w→St w0 M0 B0 N s' a w
theorem Sub.refl (N:Nat) (s:DS):Sub N s s:=fun _ _ _ _ _ h=>h
theorem DW.sub {c:Code} (hs:Sub N s s') (h:DW P N c s' Q):DW P N c s Q:=⟨fun w0 M0 B0 a w hst=>h.go w0 M0 B0 a w (hs _ _ _ _ _ hst)⟩
theorem vw_ {F:Fence} {n:Nat} {P:Program} {Q:Exit→Act→World→Prop} {X:Type} {c:Code} (I:X→Act→World→Prop) (μ:X→Nat)
  (round:∀ x a w,I x a w→c.wpIn F n P (Exit.then (fun a' w'=> ∃ x',I x' a' w'∧μ x'<μ x) Q) a w) {x0:X} {a:Act} {w:World} (h0:I x0 a w):(Code.loop c).wpIn F n P Q a w:=by
 intro b k cs hro hb hr
 have key:∀ j x a w,μ x=j→I x a w→ ∃ e a' w',Q e a' w'∧ArrivesIn (Machine.fenced P F) P (lone (b.atR a (.code c:: .inLoop c::k)) cs w) b k cs e a' w':=by
  intro j
  induction j using Nat.strongRecOn with
  |_    j ih=>
   intro x a w hn hI
   obtain⟨e,a₁,w₁,hq,harr⟩:=round x a w hI b (.inLoop c::k) cs hro hb hr
   cases e with
   |    normal=>
        obtain⟨x1,hI₁,hlt⟩:=hq
        obtain⟨e₂,a₂,w₂,hq₂,harr₂⟩:=ih (μ x1) (hn ▸ hlt) x1 a₁ w₁ rfl hI₁
        exact⟨e₂,a₂,w₂,hq₂,.of_steps (StepsIn.trans harr (.one (fenced_calm hb hr rfl) stepR_inLoop)) harr₂⟩
   |exit id=>exact⟨_,a₁,w₁,hq,.pass (x:= .inLoop c) rfl (fun _ _=> .inl (by simp)) harr⟩
   |goto l=>exact⟨_,a₁,w₁,hq,.pass (x:= .inLoop c) rfl (fun _ _=> .inl (by simp)) harr⟩
   |ret=>exact⟨_,a₁,w₁,hq,.pass (x:= .inLoop c) rfl (fun _ _=> .inl (by simp)) harr⟩
   |panic ch=>exact⟨_,a₁,w₁,hq,.pass (x:= .inLoop c) rfl (fun _ _=> .inl (by simp)) harr⟩
   |outgrown=>exact⟨_,a₁,w₁,hq,.pass (x:= .inLoop c) rfl (fun _ _=> .inl (by simp)) harr⟩
 obtain⟨e,a',w',hq,harr⟩:=key _ x0 a w rfl h0
 exact⟨e,a',w',hq,.of_steps (.one (fenced_calm hb hr rfl) stepR_loop) harr⟩
theorem DW.loop {X:Type} {c:Code} (I:X→DS) (C:X→Prop) (μ:X→Nat) (x0:X) (h0:C x0) (hs:Sub N s (I x0))
  (round:∀ x,C x→DW P N c (I x) (Thn (fun s'=> ∃ x',C x'∧μ x'<μ x∧Sub N s' (I x')) Q)):DW P N (.loop c) s Q:=by
 refine⟨?_⟩
 intro w0 M0 B0 a w hst
 refine vw_ (fun x a w=>C x∧St w0 M0 B0 N (I x) a w) μ (fun x a w ⟨hc,h⟩=>?_) (x0:=x0) ⟨h0,hs _ _ _ _ _ hst⟩
 refine wpIn_mono ((round x hc).go w0 M0 B0 a w h) fun e a' w' ⟨s',q,r⟩=>?_
 cases e with
 |normal=>
  obtain⟨x',q1,q2,q3⟩:=q
  exact⟨x',⟨q1,q3 _ _ _ _ _ r⟩,q2⟩
 |exit id=>exact⟨s',q,r⟩
 |goto l=>exact⟨s',q,r⟩
 |ret=>exact⟨s',q,r⟩
 |panic c=>exact⟨s',q,r⟩
 |outgrown=>exact⟨s',q,r⟩
end
mutual
def pers:D→Bool
 | .any| .flat _| .sl .. | .ptr .. | .ifn| .typ .. =>true
 | .agg cs=>persL cs
 | .tup cs=>persL cs
 | .clo _ a b=>persL a && persL b
 | .own .. | .ref .. | .elp .. | .keys .. | .bsl .. | .mp .. | .lrec .. | .yl .. =>false
def persL:List D→Bool
 | []=>true
 |d::ds=>pers d && persL ds
end
mutual
def noMem:D→Bool
 | .any| .flat _| .ifn| .typ .. =>true
 | .agg cs=>noMemL cs
 | .tup cs=>noMemL cs
 | .clo _ a b=>noMemL a && noMemL b
 | .own .. | .ref .. | .elp .. | .sl .. | .ptr .. | .keys .. | .bsl .. | .mp .. | .lrec .. | .yl .. =>false
def noMemL:List D→Bool
 | []=>true
 |d::ds=>noMem d && noMemL ds
end
mutual
theorem Rep.down {M:Nat→Prop} {w:World} {x:Cx}:∀ (d:D) (v:Value),pers d=true→Rep M w x d v→Rep M w none d v
 | .any,_,_,_=>by simp only [Rep]
 | .flat v,u,_,h=>by simpa only [Rep] using h
 | .agg cs,u,hp,h=>by
   simp only [Rep] at h ⊢
   obtain⟨vs,h1,h2⟩:=h
   exact⟨vs,h1,RepL.down cs vs (by simpa only [pers] using hp) h2⟩
 | .tup cs,u,hp,h=>by
   simp only [Rep] at h ⊢
   obtain⟨vs,h1,h2⟩:=h
   exact⟨vs,h1,RepL.down cs vs (by simpa only [pers] using hp) h2⟩
 | .sl full n len cs,u,_,h=>by simpa only [Rep] using h
 | .ptr cs off,u,_,h=>by simpa only [Rep] using h
 | .own ..,u,hp,h=>by simp [pers] at hp
 | .ref ..,u,hp,h=>by simp [pers] at hp
 | .elp ..,u,hp,h=>by simp [pers] at hp
 | .keys ..,u,hp,h=>by simp [pers] at hp
 | .bsl ..,u,hp,h=>by simp [pers] at hp
 | .mp ..,u,hp,h=>by simp [pers] at hp
 | .lrec ..,u,hp,h=>by simp [pers] at hp
 | .typ ..,u,hp,h=>by simp only [Rep]
 | .yl ..,u,hp,h=>by simp [pers] at hp
 | .ifn,u,hp,h=>by simpa only [Rep] using h
 | .clo fn first cap,u,hp,h=>by
   simp only [pers,Bool.and_eq_true] at hp
   simp only [Rep] at h ⊢
   obtain⟨vs,us,h1,h2,h3⟩:=h
   exact⟨vs,us,h1,RepL.down first vs hp.1 h2,RepL.down cap us hp.2 h3⟩
theorem RepL.down {M:Nat→Prop} {w:World} {x:Cx}:∀ (ds:List D) (vs:List Value),persL ds=true→RepL M w x ds vs→RepL M w none ds vs
 | [],vs,_,h=>by simpa only [RepL] using h
 |d::ds,vs,hp,h=>by
  simp only [persL,Bool.and_eq_true] at hp
  simp only [RepL] at h ⊢
  obtain⟨u,us,h1,h2,h3⟩:=h
  exact⟨u,us,h1,Rep.down d u hp.1 h2,RepL.down ds us hp.2 h3⟩
end
mutual
theorem Rep.noMem {M M':Nat→Prop} {w w':World} {x x':Cx}:∀ (d:D) (v:Value),Dm.noMem d=true→Rep M w x d v→Rep M' w' x' d v
 | .any,_,_,_=>by simp only [Rep]
 | .flat v,u,_,h=>by simpa only [Rep] using h
 | .agg cs,u,hp,h=>by
   simp only [Rep] at h ⊢
   obtain⟨vs,h1,h2⟩:=h
   exact⟨vs,h1,RepL.noMem cs vs (by simpa only [Dm.noMem] using hp) h2⟩
 | .tup cs,u,hp,h=>by
   simp only [Rep] at h ⊢
   obtain⟨vs,h1,h2⟩:=h
   exact⟨vs,h1,RepL.noMem cs vs (by simpa only [Dm.noMem] using hp) h2⟩
 | .sl ..,u,hp,h=>by simp [Dm.noMem] at hp
 | .ptr ..,u,hp,h=>by simp [Dm.noMem] at hp
 | .own ..,u,hp,h=>by simp [Dm.noMem] at hp
 | .ref ..,u,hp,h=>by simp [Dm.noMem] at hp
 | .elp ..,u,hp,h=>by simp [Dm.noMem] at hp
 | .keys ..,u,hp,h=>by simp [Dm.noMem] at hp
 | .bsl ..,u,hp,h=>by simp [Dm.noMem] at hp
 | .mp ..,u,hp,h=>by simp [Dm.noMem] at hp
 | .lrec ..,u,hp,h=>by simp [Dm.noMem] at hp
 | .typ ..,u,hp,h=>by simp only [Rep]
 | .yl ..,u,hp,h=>by simp [Dm.noMem] at hp
 | .ifn,u,hp,h=>by simpa only [Rep] using h
 | .clo fn first cap,u,hp,h=>by
   simp only [Dm.noMem,Bool.and_eq_true] at hp
   simp only [Rep] at h ⊢
   obtain⟨vs,us,h1,h2,h3⟩:=h
   exact⟨vs,us,h1,RepL.noMem first vs hp.1 h2,RepL.noMem cap us hp.2 h3⟩
theorem RepL.noMem {M M':Nat→Prop} {w w':World} {x x':Cx}:∀ (ds:List D) (vs:List Value),noMemL ds=true→RepL M w x ds vs→RepL M' w' x' ds vs
 | [],vs,_,h=>by simpa only [RepL] using h
 |d::ds,vs,hp,h=>by
  simp only [noMemL,Bool.and_eq_true] at hp
  simp only [RepL] at h ⊢
  obtain⟨u,us,h1,h2,h3⟩:=h
  exact⟨u,us,h1,Rep.noMem d u hp.1 h2,RepL.noMem ds us hp.2 h3⟩
end
def Le (d d':D):Prop:= ∀ M w G v,(∀ b,M b→b<w.heap.size)→Rep M w G d v→Rep M w G d' v
theorem Le.refl (d:D):Le d d:=fun _ _ _ _ _ h=>h
theorem Le.of_eq {d d':D} (h:d=d'):Le d d':=h ▸ Le.refl d
theorem Le.any (d:D):Le d .any:=fun _ _ _ _ _ _=>by simp only [Rep]
theorem Le.trans {a b c:D} (h:Le a b) (k:Le b c):Le a c:=fun M w G v hM h1=>k M w G v hM (h M w G v hM h1)
theorem Le.nil (full:Bool) (n:Nat):Le (.flat (.slice none 0 0)) (.sl full n 0 []):=fun M w G v _ h=>by
 simp only [Rep] at h ⊢
 exact⟨none,0,h,Nat.le_refl _,fun _=>rfl,by simp,by omega,.inl (by simp)⟩
theorem Le.full {n len:Nat} {cs:List D}:Le (.sl true n len cs) (.sl false n len cs):=fun M w G v _ h=>by
 simp only [Rep] at h ⊢
 obtain⟨a,cap,h1,h2,h3,h4⟩:=h
 exact⟨a,cap,h1,h2,fun e=>(by cases e),h4⟩
def LeL:List D→List D→Prop
 | [],[]=>True
 |d::ds,e::es=>Le d e∧LeL ds es
 |_,_=>False
theorem LeL.refl:∀ ds,LeL ds ds
 | []=>trivial
 |d::ds=>⟨Le.refl d,LeL.refl ds⟩
theorem LeL.rep {M:Nat→Prop} {w:World} {G:Cx} (hM:∀ b,M b→b<w.heap.size):∀ {ds es:List D} {vs:List Value},LeL ds es→RepL M w G ds vs→RepL M w G es vs
 | [],[],vs,_,h=>h
 |d::ds,e::es,vs,hl,h=>by
  simp only [RepL] at h ⊢
  obtain⟨u,us,h1,h2,h3⟩:=h
  exact⟨u,us,h1,hl.1 _ _ _ _ hM h2,LeL.rep hM hl.2 h3⟩
 | [],_::_,_,h,_=>h.elim
 |_::_,[],_,h,_=>h.elim
theorem Le.agg {cs cs':List D} (h:LeL cs cs'):Le (.agg cs) (.agg cs'):=fun M w G v hM h1=>by
 simp only [Rep] at h1 ⊢
 obtain⟨vs,q1,q2⟩:=h1
 exact⟨vs,q1,LeL.rep hM h q2⟩
theorem Le.tup {cs cs':List D} (h:LeL cs cs'):Le (.tup cs) (.tup cs'):=fun M w G v hM h1=>by
 simp only [Rep] at h1 ⊢
 obtain⟨vs,q1,q2⟩:=h1
 exact⟨vs,q1,LeL.rep hM h q2⟩
def Mv (M0:Nat→Prop) (g:Gh) (σ:Sg) (V:List Nat) (b:Nat):Prop:=M0 b∨ ∃ id,id ∉ V∧blkOf g σ id=some b
def Vw (pe:Sg) (d d':D):Prop:= ∀ (w0:World) (M0:Nat→Prop) (B0:Bd) (N:Nat) (g:Gh) (s:DS) (a:Act) (w:World),StG w0 M0 B0 N g s a w→Ens s.σ pe→ ∀ v,Rep (Mx M0 g s.σ) w (some (g,s.σ)) d v→Rep (Mv M0 g s.σ (keys pe)) w none d' v
def VwL (pe:Sg):List D→List D→Prop
 | [],[]=>True
 |d::ds,e::es=>Vw pe d e∧VwL pe ds es
 |_,_=>False
theorem Mv.sub {M0:Nat→Prop} {g:Gh} {σ:Sg} {V:List Nat} {b:Nat} (h:Mv M0 g σ V b):Mx M0 g σ b:=by
 rcases h with h| ⟨id,_,h⟩
 ·exact .inl h
 ·exact .inr ⟨id,h⟩
theorem Vw.pers {pe:Sg} {d:D} (h:Dm.pers d=true):Vw pe d d:=fun w0 M0 B0 N g s a w hs _ v hv=>(hv.down d v h).mono fun b _ h=>h.sub
theorem Vw.le {pe:Sg} {d d1 d2:D} (h:Vw pe d d1) (hl:Le d1 d2):Vw pe d d2:=fun w0 M0 B0 N g s a w hs he v hv=>
 hl _ _ _ _ (fun b hb=>hs.mlt b hb.sub) (h w0 M0 B0 N g s a w hs he v hv)
theorem VwL.rep {pe:Sg} {w0:World} {M0:Nat→Prop} {B0:Bd} {N:Nat} {g:Gh} {s:DS} {a:Act} {w:World} (hs:StG w0 M0 B0 N g s a w) (he:Ens s.σ pe):∀ {ds es:List D} {vs:List Value},VwL pe ds es→RepL (Mx M0 g s.σ) w (some (g,s.σ)) ds vs→RepL (Mv M0 g s.σ (keys pe)) w none es vs
 | [],[],vs,_,h=>by simpa only [RepL] using h
 |d::ds,e::es,vs,hl,h=>by
  simp only [RepL] at h ⊢
  obtain⟨u,us,h1,h2,h3⟩:=h
  exact⟨u,us,h1,hl.1 _ _ _ _ _ _ _ _ hs he _ h2,VwL.rep hs he hl.2 h3⟩
 | [],_::_,_,h,_=>h.elim
 |_::_,[],_,h,_=>h.elim
theorem VwL.pers {pe:Sg}:∀ {ds:List D},persL ds=true→VwL pe ds ds
 | [],_=>trivial
 |d::ds,h=>by
  simp only [persL,Bool.and_eq_true] at h
  exact⟨Vw.pers h.1,VwL.pers h.2⟩
theorem Vw.agg {pe:Sg} {cs cs':List D} (h:VwL pe cs cs'):Vw pe (.agg cs) (.agg cs'):=fun w0 M0 B0 N g s a w hs he v hv=>by
 simp only [Rep] at hv ⊢
 obtain⟨vs,q1,q2⟩:=hv
 exact⟨vs,q1,VwL.rep hs he h q2⟩
theorem Vw.tup {pe:Sg} {cs cs':List D} (h:VwL pe cs cs'):Vw pe (.tup cs) (.tup cs'):=fun w0 M0 B0 N g s a w hs he v hv=>by
 simp only [Rep] at hv ⊢
 obtain⟨vs,q1,q2⟩:=hv
 exact⟨vs,q1,VwL.rep hs he h q2⟩
theorem Vw.clo {pe:Sg} {fn:Fn} {cs cs' es es':List D} (h:VwL pe cs cs') (h2:VwL pe es es'):Vw pe (.clo fn cs es) (.clo fn cs' es'):=fun w0 M0 B0 N g s a w hs he v hv=>by
 simp only [Rep] at hv ⊢
 obtain⟨vs,us,q1,q2,q3⟩:=hv
 exact⟨vs,us,q1,VwL.rep hs he h q2,VwL.rep hs he h2 q3⟩
theorem ek_ {w:World} {e n len:Nat} {v:Value} {vs:List Value} (h:OwnR w e n v len vs):(v= .slice none 0 0∧len=0)∨ ∃ g o cap,v= .slice (some ⟨g,o,none⟩) len cap∧len≤cap∧cap≤maxLen∧ ∀ (i:Nat) u,vs[i]?=some u→w.cell? ⟨g,o+i,none⟩=some u:=by
 rcases h.2 with h1| ⟨g,o,cap,cur,fz,rfl,hg,hb,h1,h2,h3,h4⟩
 ·exact .inl h1
 ·refine .inr ⟨g,o,cap,rfl,h1,h2,fun i u hu=>?_⟩
  have hi:=(List.getElem?_eq_some_iff.1 hu).1
  have h5:((cur.toList.drop o).take (len*n))[i]?=some u:=by rw [h4];exact hu
  rw [List.getElem?_take,if_pos (by rw [← h.1];exact hi),List.getElem?_drop] at h5
  simp only [World.cell?,hg]
  simpa using h5
theorem Vw.own {pe:Sg} {id L n:Nat} {e:TypeId} {cs cs':List D} (hm:(id,some (.row e n L cs))∈pe) (hp:VwL pe cs cs'):Vw pe (.own id L) (.sl false n L cs'):=fun w0 M0 B0 N g s a w hs he v hv=>by
 have hσ:=he.mem _ hm
 simp only [Rep] at hv
 obtain⟨g',σ',hG,h1,_⟩:=hv
 cases hG
 simp only at hσ
 have hv:=(hc_ hσ h1).2 rfl
 obtain⟨vs,o1,o2⟩:=hs.ent id _ hσ
 have o3:=VwL.rep hs he hp o2
 have hl:=o1.1
 rw [← o3.length] at hl
 simp only [Rep]
 rcases ek_ o1 with⟨q1,q2⟩| ⟨b,o,cap,q1,q2,q3,q4⟩
 ·subst q2
  exact⟨none,0,by rw [hv,q1],Nat.le_refl _,fun e=>(by cases e),hl,by omega,.inl (by simp)⟩
 ·refine ⟨_,cap,by rw [hv,q1],q2,fun e=>(by cases e),hl,by unfold maxLen at q3;omega,?_⟩
  refine .inr ⟨b,o,rfl,?_,RepC.of fun i d hd=>?_⟩
  ·have  hb:blkOf g s.σ id=some b:=by unfold blkOf;rw [hσ];simp only [q1];rfl
   rintro (hq| ⟨id',hq1,hq2⟩)
   ·exact (hs.new id b hb).2.2 hq
   ·    have:=hs.sep id id' b hb hq2
        subst this
        exact hq1 (gn_ hm)
  ·obtain⟨u,hu,hr⟩:=o3.get i hd
   exact⟨u,q4 i u hu,hr⟩
theorem Vw.ref {pe:Sg} {id off:Nat} {cs cs':List D} (hm:(id,some (.box cs))∈pe) (hp:VwL pe cs cs') (hne:cs'≠ []) (hk:keysOf cs=none:=by first|rfl|assumption):Vw pe (.ref id off) (.ptr cs' off):=fun w0 M0 B0 N g s a w hs he v hv=>by
 have hσ:=he.mem _ hm
 simp only [Rep] at hv ⊢
 obtain⟨g',σ',cs0,hG,h1,h2⟩:=hv
 cases hG
 simp only at hσ
 obtain⟨vs,T,o1,o2,o4⟩:=hs.ent id _ hσ
 obtain⟨T,rfl⟩:=o4.cells hk
 have o3:=VwL.rep hs he hp o2
 have hb:blkOf g s.σ id=some (g.blk id):=by unfold blkOf;rw [hσ]
 refine⟨g.blk id,0,by rw [h2,Nat.zero_add],hne,?_,RepC.of fun i d hd=>?_⟩
 ·rintro (hq| ⟨id',hq1,hq2⟩)
  ·exact (hs.new id _ hb).2.2 hq
  ·have:=hs.sep id id' _ hb hq2
   subst this
   exact hq1 (gn_ hm)
 ·obtain⟨u,hu,hr⟩:=o3.get i hd
  exact⟨u,by simp only [World.cell?,o1,Nat.zero_add];simpa using hu,hr⟩
mutual
theorem Rep.cells {M:Nat→Prop} {w w':World} {x:Cx} (hc:∀ b off u,w.cell? ⟨b,off,none⟩=some u→w'.cell? ⟨b,off,none⟩=some u):∀ (d:D) (v:Value),Rep M w x d v→Rep M w' x d v
 | .any,_,_=>by simp only [Rep]
 | .flat v,u,h=>by simpa only [Rep] using h
 | .agg cs,u,h=>by
   simp only [Rep] at h ⊢
   obtain⟨vs,h1,h2⟩:=h
   exact⟨vs,h1,RepL.cells hc cs vs h2⟩
 | .tup cs,u,h=>by
   simp only [Rep] at h ⊢
   obtain⟨vs,h1,h2⟩:=h
   exact⟨vs,h1,RepL.cells hc cs vs h2⟩
 | .sl full n len cs,u,h=>by
   simp only [Rep] at h ⊢
   obtain⟨a,cap,h1,h2,h3,h4,h5,h6⟩:=h
   refine⟨a,cap,h1,h2,h3,h4,h5,?_⟩
   rcases h6 with h6| ⟨b,off,h7,h8,h9⟩
   ·exact .inl h6
   ·exact .inr ⟨b,off,h7,h8,RepC.cells hc b off cs h9⟩
 | .ptr cs off,u,h=>by
   simp only [Rep] at h ⊢
   obtain⟨b,o,h1,h2,h3,h4⟩:=h
   exact⟨b,o,h1,h2,h3,RepC.cells hc b o cs h4⟩
 | .own ..,u,h=>by simpa only [Rep] using h
 | .ref ..,u,h=>by simpa only [Rep] using h
 | .elp ..,u,h=>by simpa only [Rep] using h
 | .keys ..,u,h=>by simp only [Rep]
 | .lrec ..,u,h=>by simp only [Rep]
 | .typ ..,u,h=>by simp only [Rep]
 | .yl ..,u,h=>by simpa only [Rep] using h
 | .bsl ..,u,h=>by simpa only [Rep] using h
 | .mp ..,u,h=>by simpa only [Rep] using h
 | .ifn,u,h=>by simpa only [Rep] using h
 | .clo fn first cap,u,h=>by
   simp only [Rep] at h ⊢
   obtain⟨vs,us,h1,h2,h3⟩:=h
   exact⟨vs,us,h1,RepL.cells hc first vs h2,RepL.cells hc cap us h3⟩
theorem RepL.cells {M:Nat→Prop} {w w':World} {x:Cx} (hc:∀ b off u,w.cell? ⟨b,off,none⟩=some u→w'.cell? ⟨b,off,none⟩=some u):∀ (ds:List D) (vs:List Value),RepL M w x ds vs→RepL M w' x ds vs
 | [],vs,h=>by simpa only [RepL] using h
 |d::ds,vs,h=>by
  simp only [RepL] at h ⊢
  obtain⟨u,us,h1,h2,h3⟩:=h
  exact⟨u,us,h1,Rep.cells hc d u h2,RepL.cells hc ds us h3⟩
theorem RepC.cells {M:Nat→Prop} {w w':World} (hc:∀ b off u,w.cell? ⟨b,off,none⟩=some u→w'.cell? ⟨b,off,none⟩=some u) (b:Nat):∀ (off:Nat) (ds:List D),RepC M w b off ds→RepC M w' b off ds
 |off,[],h=>by simp only [RepC]
 |off,d::ds,h=>by
  simp only [RepC] at h ⊢
  obtain⟨⟨u,h1,h2⟩,h3⟩:=h
  exact⟨⟨u,hc _ _ _ h1,Rep.cells hc d u h2⟩,RepC.cells hc b (off+1) ds h3⟩
end
theorem m2_ {w:World} {D:Nat} {o o':Obj} (h:w.heap[D]?=some o) (hn:o.isCells=false):∀ b off u,w.cell? ⟨b,off,none⟩=some u→(w.putObj D o').cell? ⟨b,off,none⟩=some u:=by
 intro b off u hu
 by_cases e:b=D
 ·subst e
  unfold World.cell? at hu
  rw [h] at hu
  cases o <;> first|(cases hu;done)|(simp [Obj.isCells] at hn;done)
 ·unfold World.cell? at hu ⊢
  simp only [World.putObj_heap_other e]
  exact hu
theorem i9_ {w:World} {D:Nat} {o:Obj}:Mut (fun b=>b=D) w (w.putObj D o):=⟨rfl,rfl,rfl,by simp [World.putObj],fun k _ hk=>World.putObj_heap_other hk⟩
theorem StG.turn {w0:World} {M0:Nat→Prop} {B0:Bd} {N:Nat} {g:Gh} {s:DS} {a:Act} {w:World} (h:StG w0 M0 B0 N g s a w) {D:Nat} {o o':Obj} (hD:w.heap[D]?=some o) (hn:o.isCells=false) (h0:w0.heap.size≤D) (hb:∀ id,blkOf g s.σ id≠some D) {a':Act} (ha:a'.tmps=a.tmps)
  (hd:Dfs w0.heap.size g s.σ a' (w.putObj D o')):StG w0 M0 B0 N g s a' (w.putObj D o'):=by
 have hc:=m2_ (o':=o') hD hn
 refine⟨h.chg.trans' i9_ (fun b hlt e=>absurd hlt (by omega)),h.m0,hd,by rw [ha];exact h.sz,fun t=>by rw [ha];exact (h.tm t).cells hc,fun id e he=>?_,h.sep,fun id b hb'=>?_,h.anc,h.glo⟩
 ·have:=h.ent id e he
  cases e with
  |box cs=>
   obtain⟨vs,T,h1,h2,h3⟩:=this
   have hbk:blkOf g s.σ id=some (g.blk id):=by unfold blkOf;rw [he]
   exact⟨vs,T,i9_.heap h1 (fun e=>hb id (by rw [hbk,e])),RepL.cells hc cs vs h2,h3⟩
  |row e n len cs=>
   obtain⟨vs,h1,h2⟩:=this
   exact⟨vs,h1.mut i9_ (fun k hk e=>hb id (by unfold blkOf;rw [he];simp only;rw [hk,e])),RepL.cells hc cs vs h2⟩
  |dead=>trivial
 ·have:=h.new id b hb'
  exact⟨by simpa [World.putObj] using this.1,this.2⟩
theorem StG.leave {P:Program} {fn:Func} {w0:World} {M0:Nat→Prop} {B0:Bd} {N:Nat} {g:Gh} {s:DS} {R:Ending→World→Prop}:∀ (Ds:List Nat) {a:Act} {w:World},StG w0 M0 B0 N g s a w→a.defers=Ds.map (fun D=>{ target:= .collected D,args:= #[] })→Ds.Nodup→
   (∀ D∈Ds,(w.heap[D]?=some (.deferred (some []))∧w0.heap.size≤D)∧ ∀ id,blkOf g s.σ id≠some D)→
   (∀ a' w',StG w0 M0 B0 N g s a' w'→a'.tmps=a.tmps→w.heap.size≤w'.heap.size→Mut (fun b=>b∈Ds) w w'→ ∃ v,(results fn a'.tmps).run P w'= .ok v w'∧R (.returned v) w')→LeavesInM (FW none) 0 P fn a.tmps R a.defers .returning w
 | [],a,w,h,hd,_,_,hk=>by
   rw [hd]
   obtain⟨v,h1,h2⟩:=hk a w h rfl (Nat.le_refl _) (Mut.refl _ w)
   exact⟨v,h1,h2⟩
 | D::Ds,a,w,h,hd,hnd,hall,hk=>by
   rw [hd]
   obtain⟨⟨h1,h0⟩,h2⟩:=hall D (List.mem_cons_self ..)
   have hnd':=List.nodup_cons.1 hnd
   refine⟨by simp,.inl ⟨D,_,rfl,run_takeDeferred h1,?_⟩⟩
   have hall':∀ D'∈Ds,((w.putObj D (.deferred none)).heap[D']?=some (.deferred (some []))∧w0.heap.size≤D')∧ ∀ id,blkOf g s.σ id≠some D':=fun D' hD'=>by
    obtain⟨⟨q1,q2⟩,q3⟩:=hall D' (List.mem_cons_of_mem _ hD')
    exact⟨⟨by rw [World.putObj_heap_other (fun e=>hnd'.1 (by rw [← e];exact hD'))];exact q1,q2⟩,q3⟩
   have hs:=h.turn (o':= .deferred none) (a':={ a with defers:=Ds.map (fun D=>{ target:= .collected D,args:= #[] }) }) h1 rfl h0 h2 rfl ⟨Ds,rfl,hnd'.2,hall'⟩
   exact StG.leave Ds hs rfl hnd'.2 hall' (fun a' w' q1 q2 q3 q4=>hk a' w' q1 q2 (by simpa [World.putObj] using q3) (((i9_ (D:=D) (o:= .deferred none)).mono (fun b _ e=>by rw [e];exact List.mem_cons_self ..)).trans (q4.mono (fun b _ hb=>List.mem_cons_of_mem _ hb))))
end
structure DFun (P:Program) (k:FuncId) (args:List D) (d:D):Prop where
 intro::
 go:∀ (M:Nat→Prop) (w:World) (vals:List Value),(∀ b,M b→b<w.heap.size)→RepL M w none args vals→GlW w→Calls P k vals.toArray w (fun e w'=> ∃ v,e= .returned v∧Rep M w' none d v∧Fix w w')
theorem DFun.le {P:Program} {k:FuncId} {args args':List D} {d d':D} (h:DFun P k args d) (ha:LeL args' args) (hd:Le d d'):DFun P k args' d':= .intro fun M w vals hM hv hgl=>
 (h.go M w vals hM (LeL.rep hM ha hv) hgl).mono fun e w' ⟨v,h1,h2,h3⟩=>⟨v,h1,hd _ _ _ _ (fun b hb=>Nat.lt_of_lt_of_le (hM b hb) h3.size) h2,h3⟩
def argF:Nat→List D→Fr
 |_,[]=> []
 |i,d::ds=>(i,d)::argF (i+1) ds
theorem nw_:∀ (ds:List D) (i t:Nat),lkF (argF i ds) t=if t<i then .any else (ds[t - i]?).getD .any
 | [],i,t=>by simp [argF,lkF]
 |d::    ds,i,t=>by
  rw [argF,cv_,nw_ ds (i+1) t]
  by_cases h:i=t
  ·subst h;simp
  ·rw    [if_neg h]
   by_cases h2:t<i
   ·rw [if_pos h2,if_pos (by omega)]
   ·    rw [if_neg h2,if_neg (by omega)]
        rw [show t - i=(t - (i+1))+1 by omega];simp
def ResOk (P:Program) (fn:Func) (s:DS) (d:D):Prop:=
 ∀ (w0:World) (M0:Nat→Prop) (B0:Bd) (N:Nat) (g:Gh) (a:Act) (w:World),StG w0 M0 B0 N g s a w→ ∃ v,(results fn a.tmps).run P w= .ok v w∧Rep M0 w none d v
theorem DFun.enter {P:Program} {k:FuncId} {fn:Func} {c:Code} {args:List D} {d:D} {N:Nat} (hf:P.funcs[k]?=some fn) (hb:fn.body=some c) (hn:fn.ntmps=N) (hlt:N<512) (hN:args.length≤N)
  (h:DW P N c ⟨argF 0 args,[]⟩ (fun e s=>(e= .normal∨e= .ret)∧ResOk P fn s d)):DFun P k args d:=by
 subst hn
 refine⟨?_⟩
 intro M w vals hM hv hgl
 have hl:=hv.length
 refine (callsFW (r:=none) (n:=0)).1 (callsIn_of_wp_marks hf hb trivial ?_)
 have hst:StG w M Bd.none fn.ntmps ⟨fun _=>0,fun _=>undef⟩ ⟨argF 0 args,[]⟩ { tmps:=vals.toArray++Array.replicate (fn.ntmps - vals.toArray.size) undef,defers:=[] } w:=by
  refine⟨Mut.refl _ w,hM,Dfs.nil rfl,by rw [Nat.mod_eq_of_lt hlt];simp;omega,fun t=>?_,fun id e he=>by simp [lkE] at he,fun id id' b h=>by simp [blkOf,lkE] at h,fun id b h=>(by simp [blkOf,lkE] at h),Anc.nil,⟨hgl,fun _ _ h=>h⟩⟩
  rw [nw_]
  simp only [Nat.not_lt_zero,if_false,Nat.sub_zero]
  cases hd:args[t]? with
  |none=>simp only [Option.getD_none,Rep]
  |some  d=>
   obtain⟨u,hu,hr⟩:=hv.get t hd
   have ht:=(List.getElem?_eq_some_iff.1 hu).1
   have  :(vals.toArray++Array.replicate (fn.ntmps - vals.toArray.size) undef).getD t undef=u:=by
        rw [Array.getD_eq_getD_getElem?,Array.getElem?_append_left (by simpa using ht)]
        simp [hu]
   rw [this]
   exact (hr.up).mono fun b _ hb=>by
        rcases hb with hb| ⟨id,hb⟩
        ·exact hb
        ·simp [blkOf,lkE] at hb
 refine wpIn_mono (h.go w M Bd.none _ w ⟨_,hst⟩) fun e a' w' ⟨s',⟨q1,q2⟩,⟨g,q3⟩⟩=>?_
 obtain⟨Ds,k1,k2,k3⟩:=q3.df
 have:=StG.leave (P:=P) (fn:=fn) (R:=fun e w'=> ∃ v,e= .returned v∧Rep M w' none d v∧Fix w w') Ds q3 k1 k2 k3 (fun a2 w2 p1 p2 p3 p4=>by
  obtain⟨v,r1,r2⟩:=q2 _ _ _ _ _ _ _ p1
  exact⟨v,r1,v,rfl,r2,p1.chg⟩)
 rcases q1 with rfl|rfl
 ·exact this
 ·exact this
end Go.Dm
namespace Go.Dm
open Go Go.RowKit Go.PP
variable [GlobW] [Rnd]
section
variable {P:Program} {N:Nat} {dst:Option Tmp} {ty:TypeId} {pos:String} {af:Array Edge} {gd:Option (Nat × Bool)}
theorem Vals.one {M:Nat→Prop} {w:World} {G:Cx} {ρ:Operand→Value} {x:Operand} {v:Value} {r:List (Operand × D)} (h:Vals M w G ρ ((x,.flat v)::r)):ρ x=v:=by
 have:=h.1
 simpa only [Rep] using this
theorem T.move (x:Operand) (d:D):Tri P N ⟨dst,.move x,ty,pos,af,gd⟩ [(x,d)] [] d []:=Tri.val fun M w G ρ h=>⟨ρ x,rfl,h.1⟩
theorem T.assign (x:Operand) (d:D):Tri P N ⟨dst,.assign x,ty,pos,af,gd⟩ [(x,d)] [] d []:=Tri.val fun M w G ρ h=>⟨ρ x,rfl,h.1⟩
theorem xh_ {op:BinOp} {k:IntKind} {a b:Int} {v:Value} {t:TypeId} {x y:Operand} (w:World) (h:(binOp op t (.int k a) (.int k b)).run P w= .ok v w) (ρ:Operand→Value) (hx:ρ x= .int k a) (hy:ρ y= .int k b) (ty':TypeId):
  (execOp ρ ⟨dst,.binOp op t x y ty',ty,pos,af,gd⟩).run P w= .ok (.value v) w:=by
 simp only [execOp,hx,hy,Sem.run_bind]
 have:(eqGuard op t x y (.int k a) (.int k b)).run P w= .ok () w:=by
  unfold eqGuard;split <;> rfl
 rw [this]
 simp only [Result.andThen_ok,h,Sem.run_pure]
theorem T.bin {op:BinOp} {k:IntKind} {a b:Int} {v:Value} (t ty':TypeId) (x y:Operand) (h:∀ w,(binOp op t (.int k a) (.int k b)).run P w= .ok v w):
  Tri P N ⟨dst,.binOp op t x y ty',ty,pos,af,gd⟩ [(x,.flat (.int k a)),(y,.flat (.int k b))] [] (.flat v) []:=
 Tri.val fun M w G ρ hv=>⟨v,xh_ w (h w) ρ hv.one hv.2.one ty',by simp only [Rep]⟩
theorem T.add {k:IntKind} {a b c:Int} (t ty':TypeId) (x y:Operand) (h:k.wrap (a+b)=c):Tri P N ⟨dst,.binOp .add t x y ty',ty,pos,af,gd⟩ [(x,.flat (.int k a)),(y,.flat (.int k b))] [] (.flat (.int k c)) []:=
 T.bin t ty' x y fun w=>by simp [binOp,Op.intArith,h]
theorem T.sub {k:IntKind} {a b c:Int} (t ty':TypeId) (x y:Operand) (h:k.wrap (a - b)=c):Tri P N ⟨dst,.binOp .sub t x y ty',ty,pos,af,gd⟩ [(x,.flat (.int k a)),(y,.flat (.int k b))] [] (.flat (.int k c)) []:=
 T.bin t ty' x y fun w=>by simp [binOp,Op.intArith,h]
theorem T.mul {k:IntKind} {a b c:Int} (t ty':TypeId) (x y:Operand) (h:k.wrap (a*b)=c):Tri P N ⟨dst,.binOp .mul t x y ty',ty,pos,af,gd⟩ [(x,.flat (.int k a)),(y,.flat (.int k b))] [] (.flat (.int k c)) []:=
 T.bin t ty' x y fun w=>by simp [binOp,Op.intArith,h]
theorem T.quo {k:IntKind} {a b c:Int} (t ty':TypeId) (x y:Operand) (h0:b≠0) (h:k.wrap (a.tdiv b)=c):Tri P N ⟨dst,.binOp .quo t x y ty',ty,pos,af,gd⟩ [(x,.flat (.int k a)),(y,.flat (.int k b))] [] (.flat (.int k c)) []:=
 T.bin t ty' x y fun w=>by simp [binOp,Op.intDiv,h,h0]
theorem T.rem {k:IntKind} {a b c:Int} (t ty':TypeId) (x y:Operand) (h0:b≠0) (h:a.tmod b=c):Tri P N ⟨dst,.binOp .rem t x y ty',ty,pos,af,gd⟩ [(x,.flat (.int k a)),(y,.flat (.int k b))] [] (.flat (.int k c)) []:=
 T.bin t ty' x y fun w=>by simp [binOp,Op.intDiv,h,h0]
theorem T.lss {k:IntKind} {a b:Int} (t ty':TypeId) (x y:Operand):Tri P N ⟨dst,.binOp .lss t x y ty',ty,pos,af,gd⟩ [(x,.flat (.int k a)),(y,.flat (.int k b))] [] (.flat (.bool (decide (a<b)))) []:=
 T.bin t ty' x y fun w=>by simp [binOp,Op.intCmp]
theorem T.leq {k:IntKind} {a b:Int} (t ty':TypeId) (x y:Operand):Tri P N ⟨dst,.binOp .leq t x y ty',ty,pos,af,gd⟩ [(x,.flat (.int k a)),(y,.flat (.int k b))] [] (.flat (.bool (decide (a≤b)))) []:=
 T.bin t ty' x y fun w=>by simp [binOp,Op.intCmp]
theorem T.gtr {k:IntKind} {a b:Int} (t ty':TypeId) (x y:Operand):Tri P N ⟨dst,.binOp .gtr t x y ty',ty,pos,af,gd⟩ [(x,.flat (.int k a)),(y,.flat (.int k b))] [] (.flat (.bool (decide (b<a)))) []:=
 T.bin t ty' x y fun w=>by simp [binOp,Op.intCmp]
theorem T.geq {k:IntKind} {a b:Int} (t ty':TypeId) (x y:Operand):Tri P N ⟨dst,.binOp .geq t x y ty',ty,pos,af,gd⟩ [(x,.flat (.int k a)),(y,.flat (.int k b))] [] (.flat (.bool (decide (b≤a)))) []:=
 T.bin t ty' x y fun w=>by simp [binOp,Op.intCmp]
theorem T.eql {k:IntKind} {a b:Int} (t ty':TypeId) (x y:Operand):Tri P N ⟨dst,.binOp .eql t x y ty',ty,pos,af,gd⟩ [(x,.flat (.int k a)),(y,.flat (.int k b))] [] (.flat (.bool (decide (a=b)))) []:=
 T.bin t ty' x y fun w=>by simp [binOp,Op.intCmp];rfl
theorem T.neq {k:IntKind} {a b:Int} (t ty':TypeId) (x y:Operand):Tri P N ⟨dst,.binOp .neq t x y ty',ty,pos,af,gd⟩ [(x,.flat (.int k a)),(y,.flat (.int k b))] [] (.flat (.bool (decide (a≠b)))) []:=
 T.bin t ty' x y fun w=>by simp [binOp,Op.intCmp,bne];rfl
theorem T.not {b:Bool} (t:TypeId) (x:Operand):Tri P N ⟨dst,.unOp .not t x,ty,pos,af,gd⟩ [(x,.flat (.bool b))] [] (.flat (.bool (!b))) []:=
 Tri.val fun M w G ρ h=>⟨.bool (!b),by simp [execOp,h.one,Op.unary],by simp only [Rep]⟩
theorem T.extract {ds:List D} {d:D} (x:Operand) (i:Nat) (h:ds[i]?=some d):Tri P N ⟨dst,.extract x i,ty,pos,af,gd⟩ [(x,.tup ds)] [] d []:=Tri.val fun M w G ρ hv=>by
 have h1:=hv.1
 simp only [Rep] at h1
 obtain⟨vs,q1,q2⟩:=h1
 obtain⟨u,hu,hr⟩:=q2.get i h
 exact⟨u,by simp [execOp,q1,Instr.extract,hu],hr⟩
def aggOf (P:Program) (t:TypeId):Option Bool:=(P.underlying t).map fun d=>match d with
 | .struct _| .array _ _=>true
 |_=>false
def sizeOfT (P:Program) (t:TypeId):Option Nat:=(P.info? t).map (·.size)
theorem e8_ {t:TypeId} {b:Bool} (h:aggOf P t=some b) (w:World):(isAgg t).run P w= .ok b w:=by
 unfold aggOf at h
 obtain⟨d,hd,rfl⟩:=Option.map_eq_some_iff.1 h
 simp only [isAgg,Go.underlying,Sem.run_bind,run_program,Result.andThen_ok,hd,Sem.run_pure]
 cases d <;> rfl
theorem bt_ {t:TypeId} {n:Nat} (h:sizeOfT P t=some n) (w:World):(sizeOf t).run P w= .ok n w:=by
 unfold sizeOfT at h
 obtain⟨d,hd,rfl⟩:=Option.map_eq_some_iff.1 h
 simp only [sizeOf,typeInfo,Sem.run_bind,run_program,Result.andThen_ok,hd,Sem.run_pure]
theorem ai_ {t:TypeId} {d:TypeDesc} (h:P.underlying t=some d) (w:World):(Go.underlying t).run P w= .ok d w:=by
 simp only [Go.underlying,Sem.run_bind,run_program,Result.andThen_ok,h,Sem.run_pure]
def partD (agg:Bool) (n off:Nat) (cs:List D):Option D:=if agg then (if off+n≤cs.length then some (.agg ((cs.drop off).take n)) else none) else cs[off]?
theorem RepL.drop {M:Nat→Prop} {w:World} {G:Cx}:∀ {ds:List D} {vs:List Value} (k:Nat),RepL M w G ds vs→RepL M w G (ds.drop k) (vs.drop k)
 |ds,vs,0,h=>by simpa using h
 | [],vs,k+1,h=>by simp only [RepL] at h;subst h;simp [RepL]
 |d::ds,vs,k+1,h=>by
  simp only [RepL] at h
  obtain⟨u,us,rfl,_,h3⟩:=h
  simpa using RepL.drop k h3
theorem RepL.take {M:Nat→Prop} {w:World} {G:Cx}:∀ {ds:List D} {vs:List Value} (k:Nat),RepL M w G ds vs→RepL M w G (ds.take k) (vs.take k)
 |ds,vs,0,h=>by simp [RepL]
 | [],vs,k+1,h=>by simp only [RepL] at h;subst h;simp [RepL]
 |d::ds,vs,k+1,h=>by
  simp only [RepL] at h
  obtain⟨u,us,rfl,h2,h3⟩:=h
  simp only [List.take_succ_cons,RepL]
  exact⟨u,us.take k,rfl,h2,RepL.take k h3⟩
theorem vo_ {M:Nat→Prop} {w:World} {G:Cx} {t:TypeId} {b:Bool} {n off:Nat} {cs:List D} {vs:List Value} {d:D} (hb:aggOf P t=some b) (hn:sizeOfT P t=some n) (h:partD b n off cs=some d) (hv:RepL M w G cs vs):
  ∃ v,(part t vs.toArray off).run P w= .ok v w∧Rep M w G d v:=by
 unfold partD at h
 cases b with
 |true   =>
  rw [if_pos rfl] at h
  split at h
  ·cases h
   refine⟨.agg ((vs.drop off).take n).toArray,?_,?_⟩
   ·    simp only [part,Sem.run_bind,e8_ hb,Result.andThen_ok,if_true,bt_ hn,Sem.run_pure]
        congr 3
        simp [List.drop_take,Nat.add_sub_cancel_left]
   ·    simp only [Rep]
        exact⟨_,rfl,(hv.drop off).take n⟩
  ·cases h
 |false=>
  simp only [Bool.false_eq_true,if_false] at h
  obtain⟨u,hu,hr⟩:=hv.get off h
  exact⟨u,by simp [part,e8_ hb,hu],hr⟩
theorem T.field {fs:Array Field} {f:Field} {b:Bool} {n:Nat} {cs:List D} {d:D} (t:TypeId) (x:Operand) (i:Nat) (ht:P.underlying t=some (.struct fs)) (hf:fs[i]?=some f) (hb:aggOf P f.type=some b) (hn:sizeOfT P f.type=some n)
  (h:partD b n f.offset cs=some d):Tri P N ⟨dst,.field t x i,ty,pos,af,gd⟩ [(x,.agg cs)] [] d []:=Tri.val fun M w G ρ hv=>by
 have h1:=hv.1
 simp only [Rep] at h1
 obtain⟨vs,q1,q2⟩:=h1
 obtain⟨u,hu,hr⟩:=vo_ (P:=P) hb hn h q2
 exact⟨u,by simp only [execOp,q1,Instr.field,Sem.run_bind,ai_ ht,Result.andThen_ok,hf,asAgg,Sem.run_pure,hu],hr⟩
end
end Go.Dm
