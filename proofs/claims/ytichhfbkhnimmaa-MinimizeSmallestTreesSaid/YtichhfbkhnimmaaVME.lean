/- Automata, plainly: what is found, restricted automata. No condition. -/
import Derived.Test.YtichhfbkhnimmaaVMB
set_option linter.unusedSimpArgs false
set_option linter.unusedVariables false
set_option maxHeartbeats 400000
namespace Go.Mn
open Go Go.Rt
theorem r3_ {A:Au} (hok:AuOk A) {s:Int} {l:List Int} (hf:Fits A s l):0≤atI A s l∧atI A s l<(A.f.length:Int):=by
 obtain⟨i,p,row,q,rfl,hi,hrow,hp,hpl,hq,hat,hq0,hq1,hl2⟩:=hf.at hok
 rw [hat]
 exact⟨hq0,hq1⟩
def isB (n:Nat) (out:List Int):List Bool:=(List.range n).map fun (i:Nat)=>decide ((i:Int)∈out)
def a5_ (A:Au) (s:Int) (out:List Int) (l:List Int):List Int:=if atI A s l∈out then out else out++ [atI A s l]
theorem d2_ (n:Nat) (out:List Int):(isB n out).length=n:=by simp [isB]
theorem e9_ {n i:Nat} (hi:i<n) (out:List Int):(isB n out)[i]?=some (decide ((i:Int)∈out)):=by simp [isB,hi]
def dd_ (of:List Int):Nat→List Int→List (List Int)
 |0,l=> [l]
 |m+1,l=>of.flatMap fun s=>dd_ of m (l++ [s])
def bw_ (A:Au) (s:Int) (ls:List (List Int)) (out:List Int):List Int:=ls.foldl (a5_ A s) out
structure OutOk (A:Au) (out:List Int):Prop where
 rng:∀ x∈out,0≤x∧x<(A.f.length:Int)
 nd:out.Nodup
theorem OutOk.len {A:Au} {out:List Int} (h:OutOk A out):out.length≤A.f.length:=dj_ _ _ h.nd h.rng
theorem OutOk.nil (A:Au):OutOk A []:=⟨by simp,by simp⟩
theorem OutOk.step {A:Au} (hok:AuOk A) {s:Int} {l out:List Int} (hf:Fits A s l) (h:OutOk A out):OutOk A (a5_ A s out l):=by
 unfold a5_
 split
 ·exact h
 ·rename_i hn
  refine⟨fun x hx=>?_,List.nodup_append.2 ⟨h.nd,by simp,fun a ha b hb=>by simp at hb;subst hb;intro e;subst e;exact hn ha⟩⟩
  rcases List.mem_append.1 hx with hx|hx
  ·exact h.rng x hx
  ·simp at hx;subst hx;exact r3_ hok hf
theorem ha_ {A:Au} {s:Int} {of:List Int} (hs0:0≤s) (hs1:s<A.r.length) (hof:∀ x∈of,0≤x∧x<(A.f.length:Int)):∀ (m:Nat) (l:List Int),((l.length+m:Nat):Int)=A.r.getD s.toNat 0→(∀ x∈l,0≤x∧x<(A.f.length:Int))→ ∀ x∈dd_ of m l,Fits A s x
 |0,l,hl,hr,x,hx=>by
  simp only [dd_,List.mem_singleton] at hx
  subst hx
  exact⟨hs0,hs1,by simpa using hl,hr⟩
 |m+1,l,hl,hr,x,hx=>by
  simp only [dd_,List.mem_flatMap] at hx
  obtain⟨y,hy,hx⟩:=hx
  refine ha_ hs0 hs1 hof m (l++ [y]) (by rw [← hl];simp;omega) (fun z hz=>?_) x hx
  rcases List.mem_append.1 hz with hz|hz
  ·exact hr z hz
  ·simp at hz;subst hz;exact hof _ hy
theorem OutOk.all {A:Au} (hok:AuOk A) {s:Int}:∀ {ls:List (List Int)} {out:List Int},(∀ x∈ls,Fits A s x)→OutOk A out→OutOk A (bw_ A s ls out)
 | [],out,_,h=>h
 |l::ls,out,hf,h=>OutOk.all (ls:=ls) hok (fun x hx=>hf x (by simp [hx])) (h.step hok (hf l (by simp)))
theorem qr_ (A:Au) (s:Int) (l r:List (List Int)) (out:List Int):bw_ A s (l++r) out=bw_ A s r (bw_ A s l out):=by simp [bw_]
def symS (A:Au) (of:List Int) (o:List Int) (s:Nat):List Int:=bw_ A s (dd_ of (A.r.getD s 0).toNat []) o
def bn_ (A:Au) (of out:List Int) (j:Nat):List Int:=(List.range j).foldl (symS A of) out
def mv_ (A:Au) (out:List Int):List Int:=bn_ A out out A.r.length
def as_ (A:Au):Nat→List Int
 |0=> []
 |k+1=>mv_ A (as_ A k)
def ad_ (A:Au):List Int:=as_ A (A.f.length+1)
theorem of_ (A:Au) (s:Int) (out l:List Int):out <+: a5_ A s out l:=by
 unfold a5_;split
 ·exact List.prefix_refl _
 ·exact List.prefix_append ..
theorem ee_ (A:Au) (s:Int):∀ (ls:List (List Int)) (out:List Int),out <+: bw_ A s ls out
 | [],out=>List.prefix_refl _
 |x::r,out=>(of_ A s out x).trans (ee_ A s r (a5_ A s out x))
theorem cc_ (A:Au) (of out:List Int) (j:Nat):bn_ A of out (j+1)=symS A of (bn_ A of out j) j:=by simp [bn_,List.range_succ]
theorem ju_ (A:Au) (of out:List Int):∀ j,out <+: bn_ A of out j
 |0=>List.prefix_refl _
 |j+1=>by rw [cc_];exact (ju_ A of out j).trans (ee_ ..)
theorem j2_ (A:Au) (out:List Int):out <+: mv_ A out:=ju_ ..
theorem iu_ {A:Au} (hok:AuOk A) {j:Nat} (hj:j<A.r.length):A.r[j]?=some (((A.r.getD j 0).toNat:Nat):Int)∧(A.r.getD j 0).toNat≤2∧A.r.getD j 0=(((A.r.getD j 0).toNat:Nat):Int):=by
 have h1:A.r.getD j 0=A.r[j]:=by simp [List.getD,hj]
 have h2:=hok.alpha.rng A.r[j] (by simp)
 rw [h1]
 have h3:(((A.r[j]).toNat:Nat):Int)=A.r[j]:=by omega
 refine⟨by rw [h3];simp,by omega,h3.symm⟩
theorem iy_ {A:Au} (hok:AuOk A) {of out:List Int} (hof:∀ x∈of,0≤x∧x<(A.f.length:Int)) (ho:OutOk A out):∀ j,j≤A.r.length→OutOk A (bn_ A of out j)
 |0,_=>ho
 |j+1,h=>by
  rw [cc_]
  obtain⟨r1,r2,r3⟩:=iu_ hok (show j<A.r.length by omega)
  exact OutOk.all hok (ha_ (by omega) (by omega) hof _ [] (by rw [Int.toNat_natCast];simp only [List.length_nil,Nat.zero_add];exact r3.symm) (by simp)) (iy_ hok hof ho j (by omega))
theorem b9_ {A:Au} (hok:AuOk A):∀ k,OutOk A (as_ A k)
 |0=>OutOk.nil A
 |k+1=>iy_ hok (b9_ hok k).rng (b9_ hok k) _ (Nat.le_refl _)
theorem dv_ {A:Au} {k:Nat} (h:(as_ A (k+1)).length≤(as_ A k).length):∀ m,as_ A (k+m)=as_ A k
 |0=>rfl
 |m+1=>by
  have h1:as_ A (k+1)=as_ A k:=(List.IsPrefix.eq_of_length_le (j2_ A (as_ A k)) h).symm
  have h2:as_ A (k+(m+1))=mv_ A (as_ A (k+m)):=rfl
  rw [h2,dv_ h m]
  exact h1
theorem f4_ {A:Au}:∀ k,(∀ j<k,(as_ A j).length<(as_ A (j+1)).length)→k≤(as_ A k).length
 |0,_=>Nat.zero_le _
 |k+1,h=>by
  have:=f4_ k (fun j hj=>h j (by omega))
  have:=h k (by omega)
  omega
theorem qx_ {A:Au} (hok:AuOk A) {k:Nat} (hg:∀ j<k,(as_ A j).length<(as_ A (j+1)).length) (h:(as_ A (k+1)).length≤(as_ A k).length):as_ A (k+1)=ad_ A:=by
 have h1:=f4_ k hg
 have h2:=(b9_ hok k).len
 have h3:=dv_ h (A.f.length+1 - k)
 rw [show k+(A.f.length+1 - k)=A.f.length+1 by omega] at h3
 unfold ad_
 rw [h3]
 exact dv_ h 1
def wasK (A:Au):Nat→Int
 |0=> -1
 |k+1=>((as_ A k).length:Nat)
theorem oh_ {r:List Int} (h:alphaE r=0):(0:Int)∈r:=by
 unfold alphaE at h
 split at h
 ·cases h
 ·split at h
  ·cases h
  ·split at h
   ·assumption
   ·cases h
theorem k6_ {A:Au} (h:chk A=0):(0:Int)∈A.r:=by
 unfold chk at h
 split at h
 ·rename_i h0;exact absurd h h0
 ·rename_i h0
  exact oh_ (by omega)
theorem qz_ {A:Au} (hok:AuOk A):mv_ A (ad_ A)=ad_ A:=by
 have hex:∃ k,k≤A.f.length∧(as_ A (k+1)).length≤(as_ A k).length:=by
  refine Classical.byContradiction fun hn=>?_
  have hg:∀ j<A.f.length+1,(as_ A j).length<(as_ A (j+1)).length:=fun j hj=>by
   refine Classical.byContradiction fun h=>hn ⟨j,by omega,by omega⟩
  have h1:=f4_ _ hg
  have h2:=(b9_ hok (A.f.length+1)).len
  omega
 obtain⟨k,hk,hle⟩:=hex
 have h1:=dv_ hle (A.f.length+1 - k)
 have h2:=dv_ hle (A.f.length+2 - k)
 rw [show k+(A.f.length+1 - k)=A.f.length+1 by omega] at h1
 rw [show k+(A.f.length+2 - k)=A.f.length+1+1 by omega] at h2
 have h3:mv_ A (ad_ A)=as_ A (A.f.length+1+1):=rfl
 rw [h3,h2,← h1];rfl
theorem jb_ {of:List Int}:∀ {m:Nat} {l x:List Int},x∈dd_ of m l↔ ∃ ds,ds.length=m∧(∀ d∈ds,d∈of)∧x=l++ds
 |0,l,x=>by
  simp only [dd_,List.mem_singleton]
  constructor
  ·rintro rfl;exact⟨[],rfl,by simp,by simp⟩
  ·rintro⟨ds,h1,_,rfl⟩
   rw [List.eq_nil_of_length_eq_zero h1];simp
 |m+1,l,x=>by
  simp only [dd_,List.mem_flatMap,jb_]
  constructor
  ·rintro⟨s,hs,ds,h1,h2,rfl⟩
   refine⟨s::ds,by simp [h1],fun d hd=>?_,by simp⟩
   rcases List.mem_cons.1 hd with rfl|hd
   ·exact hs
   ·exact h2 d hd
  ·rintro⟨ds,h1,h2,rfl⟩
   cases ds with
   |nil=>simp at h1
   |cons s ds=>exact⟨s,h2 s (by simp),ds,by simpa using h1,fun d hd=>h2 d (by simp [hd]),by simp⟩
theorem j0_ {A:Au} {s:Int}:∀ {ls:List (List Int)} {out x:List Int},x∈ls→atI A s x∈bw_ A s ls out
 |l::ls,out,x,h=>by
  rcases List.mem_cons.1 h with rfl|h
  ·refine (ee_ A s ls (a5_ A s out x)).subset ?_
   unfold a5_;split
   ·assumption
   ·simp
  ·exact j0_ (ls:=ls) h
theorem k2_ (A:Au) (of out:List Int) {i j:Nat} (h:i≤j):bn_ A of out i <+: bn_ A of out j:=by
 induction h with
 |refl=>exact List.prefix_refl _
 |step _ ih=>exact ih.trans (by rw [cc_];exact ee_ ..)
theorem dl_ {A:Au} (hok:AuOk A) {i k:Nat} {ds:List Int} (hk:A.r[i]?=some (k:Int)) (hl:ds.length=k) (hd:∀ d∈ds,d∈ad_ A):atI A i ds∈ad_ A:=by
 have hi:=(List.getElem?_eq_some_iff.1 hk).1
 have h1:atI A i ds∈bn_ A (ad_ A) (ad_ A) (i+1):=by
  rw [cc_]
  exact j0_ (jb_.2 ⟨ds,by simp [List.getD,hk,hl],hd,by simp⟩)
 have h2:=(k2_ A (ad_ A) (ad_ A) (show i+1≤A.r.length by omega)).subset h1
 have h3:bn_ A (ad_ A) (ad_ A) A.r.length=ad_ A:=qz_ hok
 rw [h3] at h2
 exact h2
theorem hw_ {A:Au} (hok:AuOk A) (h0:(0:Int)∈A.r):ShutL A (ad_ A):=by
 have ho:=b9_ hok (A.f.length+1)
 have hn:=hok.hi
 refine⟨?_,by have:=ho.len;unfold ad_;omega,ho.nd,ho.rng,fun i k ds hk hl hd=>?_⟩
 ·obtain⟨i,hi⟩:=List.getElem?_of_mem h0
  have:=dl_ hok (k:=0) (ds:=[]) hi rfl (by simp)
  exact List.length_pos_iff.2 (fun e=>by rw [e] at this;simp at this)
 ·obtain⟨k,rfl⟩:=Int.eq_ofNat_of_zero_le (hok.alpha.rng _ (List.mem_of_getElem? hk)).1
  refine dl_ hok hk (by rw [List.length_map];omega) (fun d hd'=>?_)
  obtain⟨e,he,rfl⟩:=List.mem_map.1 hd'
  exact kp_ (hd e he)
noncomputable def uk_ (A:Au):Au × Nat:=open Classical in if chk A≠0 then (A00,chk A) else (c6_ A (ad_ A),0)
theorem sd_ {A:Au} (h:chk A≠0):uk_ A=(A00,chk A):=if_pos h
theorem p5_ {A:Au} (h:chk A=0):uk_ A=(c6_ A (ad_ A),0):=if_neg (by simp [h])
noncomputable def m3_ (A:Au):List Bool × Nat:=open Classical in if chk A≠0 then ([],chk A) else (isB A.f.length (ad_ A),0)
theorem rb_ {A:Au} (h:chk A≠0):m3_ A=([],chk A):=if_pos h
theorem ii_ {A:Au} (h:chk A=0):m3_ A=(isB A.f.length (ad_ A),0):=if_neg (by simp [h])
def phi (l:List Int) (d:Int):Int:=l.getD d.toNat 0
theorem yg_ {l:List Int} {d:Int} (h:0≤d∧d<(l.length:Int)):phi l d∈l:=kp_ h
theorem xi_ {l:List Int} {x:Int} (h:x∈l):phi l (hasI l x)=x:=by
 rw [gq_ h]
 have h1:=List.idxOf_lt_length_of_mem h
 simp [phi,List.getD,h1]
theorem vi_ {l:List Int} {x:Int} (h:x∈l):0≤hasI l x∧hasI l x<(l.length:Int):=by
 rw [gq_ h]
 have:=List.idxOf_lt_length_of_mem h
 omega
section
variable {A:Au} {l:List Int}
theorem vv_:(c6_ A l).f.length=l.length:=by simp [c6_,d7_]
theorem uv_ (hsh:ShutL A l) {i k:Nat} {ds:List Int} (hk:A.r[i]?=some (k:Int)) (hl:ds.length=k) (hd:∀ d∈ds,0≤d∧d<(l.length:Int)):atI A i (ds.map (phi l))∈l:=hsh.shut i k ds hk (by rw [hl]) hd
theorem xy_ (hk:chk A=0) (hsh:ShutL A l):AuOk (c6_ A l):=
 td_ (eb_ hk) hsh.pos hsh.hi fun i k p hi hp=>vi_ (uv_ hsh hi (fd_ _ _ _) (hk_ hsh.pos k p))
theorem vq_ (hk:chk A=0) (hsh:ShutL A l):chk (c6_ A l)=0:=ow_ (show alphaE A.r=0 from eb_ hk) (xy_ hk hsh)
theorem ni_ {B:Au} (hok:AuOk B) {s:Int} {ds:List Int} (hf:Fits B s ds):∃ i:Nat,s=(i:Int)∧B.r[i]?=some (ds.length:Int):=by
 obtain⟨i,rfl⟩:=Int.eq_ofNat_of_zero_le hf.s0
 have hi:i<B.r.length:=by have:=hf.s1;omega
 refine⟨i,rfl,?_⟩
 have:=hf.len
 simp [List.getD,hi] at this
 simp [hi,this]
end
end Go.Mn
namespace Go.Mn
open Go Go.Rt
structure Sp where
 sym:Int
 at_:Int
 other:Int
deriving DecidableEq
def Sp.args (s:Sp) (p:Int):List Int:=if s.other<0 then [p] else if s.at_=0 then [p,s.other] else [s.other,p]
def au_ (A:Au) (s:Sp) (p:Int):Int:=atI A s.sym (s.args p)
def fs_ (A:Au) (i:Nat):List Sp:=
 if A.r.getD i 0=1 then [⟨i,0, -1⟩]
 else if A.r.getD i 0=2 then (List.range 2).flatMap fun (w:Nat)=>((List.range A.f.length).filter fun (m:Nat)=>decide ((m:Int)∈ad_ A)).map fun (m:Nat)=>⟨i,w,m⟩
 else []
def ag_ (A:Au):List Sp:=(List.range A.r.length).flatMap (fs_ A)
structure SpOk (A:Au) (s:Sp):Prop where
 h:∃ i:Nat,s.sym=i∧i<A.r.length∧((A.r.getD i 0=1∧s.at_=0∧s.other= -1)∨(A.r.getD i 0=2∧(s.at_=0∨s.at_=1)∧0≤s.other∧s.other<A.f.length∧s.other∈ad_ A))
theorem bx_ {A:Au} {s:Sp}:s∈ag_ A↔SpOk A s:=by
 unfold ag_
 rw [List.mem_flatMap]
 constructor
 ·rintro ⟨i,hi,hs⟩
  rw [List.mem_range] at hi
  unfold fs_ at hs
  split at hs
  ·rename_i h1
   rw [List.mem_singleton] at hs
   subst hs
   exact⟨i,rfl,hi,.inl ⟨h1,rfl,rfl⟩⟩
  ·split at hs
   ·    rename_i h1 h2
        obtain⟨w,hw,hs⟩:=List.mem_flatMap.1 hs
        rw [List.mem_range] at hw
        obtain⟨m,hm,rfl⟩:=List.mem_map.1 hs
        rw [List.mem_filter,List.mem_range] at hm
        exact⟨i,rfl,hi,.inr ⟨h2,by show (w:Int)=0∨(w:Int)=1;omega,by show 0≤(m:Int);omega,by show (m:Int)<_;omega,of_decide_eq_true hm.2⟩⟩
   ·cases hs
 ·rintro⟨i,h1,h2,h3⟩
  refine⟨i,List.mem_range.2 h2,?_⟩
  obtain⟨sy,w,o⟩:=s
  simp only at h1 h3
  subst h1
  unfold fs_
  rcases h3 with⟨h3,h4,h5⟩| ⟨h3,h4,h5,h6,h7⟩
  ·rw [if_pos h3,h4,h5];exact List.mem_singleton.2 rfl
  ·rw [if_neg (by omega),if_pos h3]
   obtain⟨m,rfl⟩:=Int.eq_ofNat_of_zero_le h5
   obtain⟨v,rfl⟩:∃ v:Nat,w=v:=⟨w.toNat,by omega⟩
   exact List.mem_flatMap.2 ⟨v,List.mem_range.2 (by omega),List.mem_map.2 ⟨m,List.mem_filter.2 ⟨List.mem_range.2 (by omega),decide_eq_true h7⟩,rfl⟩⟩
def InA (A:Au) (p:Int):Prop:=0≤p∧p<(A.f.length:Int)
theorem ma_ {A:Au} {s:Sp} (hs:SpOk A s) {p:Int} (hp:InA A p):Fits A s.sym (s.args p):=by
 obtain⟨i,h1,h2,h3⟩:=hs
 obtain⟨q0,q1⟩:=hp
 refine⟨by omega,by omega,?_,?_⟩
 ·rw [h1,Int.toNat_natCast]
  unfold Sp.args
  rcases h3 with⟨h3,h4,h5⟩| ⟨h3,h4,h5,h6,h7⟩
  ·rw [if_pos (by omega),h3];rfl
  ·rw [if_neg (by omega),h3];split <;> rfl
 ·intro  x hx
  unfold Sp.args at hx
  split at hx
  ·rw [List.mem_singleton] at hx;subst hx;exact⟨q0,q1⟩
  ·rcases h3 with⟨h3,h4,h5⟩| ⟨h3,h4,h5,h6,h7⟩
   ·omega
   ·    split at hx
        ·simp only [List.mem_cons,List.not_mem_nil,or_false] at hx
         rcases hx with rfl|rfl
         ·exact⟨q0,q1⟩
         ·exact⟨h5,h6⟩
        ·simp only [List.mem_cons,List.not_mem_nil,or_false] at hx
         rcases hx with rfl|rfl
         ·exact⟨h5,h6⟩
         ·exact⟨q0,q1⟩
theorem db_ {A:Au} (hok:AuOk A) {s:Sp} (hs:SpOk A s) {p:Int} (hp:InA A p):InA A (au_ A s p):=r3_ hok (ma_ hs hp)
def finI (A:Au) (p:Int):Bool:=A.f.getD p.toNat false
def b4_ (A:Au) (l:List Sp) (p:Int):Int:=l.foldl (fun q s=>au_ A s q) p
def ady (A:Au) (l:List Sp) (p q:Int):Prop:=(∀ s∈l,s∈ag_ A)∧finI A (b4_ A l p)≠finI A (b4_ A l q)
def Dist (A:Au) (d:Nat) (p q:Int):Prop:= ∃ l:List Sp,l.length=d∧ady A l p q
theorem ca_ {A:Au} {p q:Int}:Dist A 0 p q↔finI A p≠finI A q:=by
 constructor
 ·rintro⟨l,hl,h⟩
  obtain rfl:=List.eq_nil_of_length_eq_zero hl
  exact h.2
 ·exact fun h=>⟨[],rfl,⟨fun s hs=>(by cases hs),h⟩⟩
theorem c4_ {A:Au} {d:Nat} {p q:Int}:Dist A (d+1) p q↔ ∃ s∈ag_ A,Dist A d (au_ A s p) (au_ A s q):=by
 constructor
 ·rintro⟨l,hl,h1,h2⟩
  cases l with
  |nil=>cases hl
  |cons s l=>exact⟨s,h1 s (by simp),l,by simpa using hl,fun x hx=>h1 x (by simp [hx]),h2⟩
 ·rintro⟨s,hs,l,hl,h1,h2⟩
  exact⟨s::l,by simp [hl],fun x hx=>by
   rcases List.mem_cons.1 hx with rfl|hx
   ·exact hs
   ·exact h1 x hx,h2⟩
def Eqk (A:Au) (k:Nat) (p q:Int):Prop:= ∀ d,d≤k→ ¬ Dist A d p q
def Eqv (A:Au) (p q:Int):Prop:= ∀ d,¬ Dist A d p q
theorem pe_ {A:Au} {d:Nat} {p:Int}:¬ Dist A d p p:=fun⟨l,_,h⟩=>h.2 rfl
theorem me_ {A:Au} {d:Nat} {p q:Int} (h:Dist A d p q):Dist A d q p:=by
 obtain⟨l,hl,h1,h2⟩:=h
 exact⟨l,hl,h1,fun e=>h2 e.symm⟩
theorem ke_ {A:Au} {d:Nat} {p q r:Int} (h:Dist A d p r):Dist A d p q∨Dist A d q r:=by
 obtain⟨l,hl,h1,h2⟩:=h
 by_cases e:finI A (b4_ A l p)=finI A (b4_ A l q)
 ·exact .inr ⟨l,hl,h1,fun e2=>h2 (e.trans e2)⟩
 ·exact .inl ⟨l,hl,h1,e⟩
theorem Eqk.refl (A:Au) (k:Nat) (p:Int):Eqk A k p p:=fun d _=>pe_
theorem Eqk.symm {A:Au} {k:Nat} {p q:Int} (h:Eqk A k p q):Eqk A k q p:=fun d hd e=>h d hd (me_ e)
theorem Eqk.trans {A:Au} {k:Nat} {p q r:Int} (h:Eqk A k p q) (h2:Eqk A k q r):Eqk A k p r:=fun d hd e=>(ke_ e).elim (h d hd) (h2 d hd)
theorem Eqv.refl (A:Au) (p:Int):Eqv A p p:=fun d=>pe_
theorem Eqv.symm {A:Au} {p q:Int} (h:Eqv A p q):Eqv A q p:=fun d e=>h d (me_ e)
theorem Eqv.trans {A:Au} {p q r:Int} (h:Eqv A p q) (h2:Eqv A q r):Eqv A p r:=fun d e=>(ke_ e).elim (h d) (h2 d)
theorem Eqv.next {A:Au} {p q:Int} (h:Eqv A p q) {s:Sp} (hs:s∈ag_ A):Eqv A (au_ A s p) (au_ A s q):=fun d e=>h (d+1) (c4_.2 ⟨s,hs,e⟩)
theorem Eqv.fin {A:Au} {p q:Int} (h:Eqv A p q):finI A p=finI A q:=Classical.byContradiction fun e=>h 0 (ca_.2 e)
theorem Eqk.succ {A:Au} {k:Nat} {p q:Int}:Eqk A (k+1) p q↔finI A p=finI A q∧ ∀ s∈ag_ A,Eqk A k (au_ A s p) (au_ A s q):=by
 constructor
 ·refine fun h=>⟨Classical.byContradiction fun e=>h 0 (by omega) (ca_.2 e),fun s hs d hd e=>h (d+1) (by omega) (c4_.2 ⟨s,hs,e⟩)⟩
 ·rintro⟨h1,h2⟩ d hd e
  cases d with
  |zero=>exact ca_.1 e h1
  |succ d=>
   obtain⟨s,hs,e⟩:=c4_.1 e
   exact h2 s hs d (by omega) e
theorem Eqk.mono {A:Au} {j k:Nat} {p q:Int} (hjk:j≤k) (h:Eqk A k p q):Eqk A j p q:=fun d hd=>h d (by omega)
theorem aa4 {A:Au} (R:Int→Int→Prop) (hf:∀ p q,R p q→finI A p=finI A q) (hn:∀ p q,R p q→ ∀ s∈ag_ A,R (au_ A s p) (au_ A s q)) {p q:Int} (h:R p q):Eqv A p q:=by
 have key:∀ d p q,R p q→ ¬ Dist A d p q:=by
  intro d
  induction d with
  |zero=>exact fun p q h e=>ca_.1 e (hf p q h)
  |succ d ih=>
   intro p q h e
   obtain⟨s,hs,e⟩:=c4_.1 e
   exact ih _ _ (hn p q h s hs) e
 exact fun d=>key d p q h
open Classical in
noncomputable def ch_ (A:Au) (k:Nat):List Nat:=(List.range A.f.length).filter fun p=>decide (∀ q:Nat,q<p→ ¬ Eqk A k (q:Int) (p:Int))
open Classical in
theorem dh_ {A:Au} {k p:Nat}:p∈ch_ A k↔p<A.f.length∧ ∀ q:Nat,q<p→ ¬ Eqk A k (q:Int) (p:Int):=by
 unfold ch_
 rw [List.mem_filter,List.mem_range,decide_eq_true_iff]
theorem os_ (A:Au) (k:Nat):∀ p:Nat,p<A.f.length→ ∃ h∈ch_ A k,h≤p∧Eqk A k (h:Int) (p:Int):=by
 intro p
 induction p using Nat.strongRecOn with
 |_ p ih=>
  intro hp
  by_cases hh:p∈ch_ A k
  ·exact⟨p,hh,Nat.le_refl _,Eqk.refl A k _⟩
  · have:∃ q:Nat,q<p∧Eqk A k (q:Int) (p:Int):=Classical.byContradiction fun hn=>hh (dh_.2 ⟨hp,fun q hq e=>hn ⟨q,hq,e⟩⟩)
    obtain⟨q,hq,e⟩:=this
    obtain⟨h,h1,h2,h3⟩:=ih q hq (by omega)
    exact⟨h,h1,by omega,h3.trans e⟩
theorem qp_ (A:Au) (k:Nat):∀ p∈ch_ A k,p∈ch_ A (k+1):=fun p hp=>by
 obtain⟨h1,h2⟩:=dh_.1 hp
 exact dh_.2 ⟨h1,fun q hq e=>h2 q hq (e.mono (by omega))⟩
open Classical in
theorem q7_ {A:Au} {k:Nat} (h:(ch_ A (k+1)).length≤(ch_ A k).length) {p q:Nat} (hp:p<A.f.length) (hq:q<A.f.length) (e:Eqk A k (p:Int) (q:Int)):Eqk A (k+1) (p:Int) (q:Int):=by
  have hsub:List.Sublist (ch_ A k) (ch_ A (k+1)):=by
    unfold ch_
    have : ∀ l:List Nat,(∀ p∈l,p∈ch_ A k→p∈ch_ A (k+1))→List.Sublist (l.filter fun p=>decide (∀ q:Nat,q<p→ ¬ Eqk A k (q:Int) (p:Int))) (l.filter fun p=>decide (∀ q:Nat,q<p→ ¬ Eqk A (k+1) (q:Int) (p:Int))):=by
      intro l
      induction l with
      |nil=>intro _;exact List.Sublist.refl _
      | cons x xs ih=>
        intro hx
        have ihx:=ih fun p hp=>hx p (List.mem_cons_of_mem _ hp)
        rw [List.filter_cons,List.filter_cons]
        by_cases h1:(∀ q:Nat,q<x→ ¬ Eqk A k (q:Int) (x:Int))
        · have h2:(∀ q:Nat,q<x→ ¬ Eqk A (k+1) (q:Int) (x:Int)):=fun q hq e=>h1 q hq (e.mono (by omega))
          rw [if_pos (decide_eq_true h1),if_pos (decide_eq_true h2)]
          exact ihx.cons_cons _
        · rw [if_neg (by rw [decide_eq_true_iff];exact h1)]
          split
          ·exact ihx.cons _
          ·exact ihx
    exact this _ fun p _ hp=>qp_ A k p hp
  have heq:=hsub.eq_of_length_le h
  obtain⟨h1,m1,_,e1⟩:=os_ A (k+1) p hp
  obtain⟨h2,m2,_,e2⟩:=os_ A (k+1) q hq
  rw [← heq] at m1 m2
  have e3:Eqk A k (h1:Int) (h2:Int):=((e1.mono (by omega)).trans e).trans (e2.mono (by omega)).symm
  have:h1=h2:=by
    rcases Nat.lt_trichotomy h1 h2 with hl|hl|hl
    ·exact absurd e3 ((dh_.1 m2).2 h1 hl)
    ·exact hl
    ·exact absurd e3.symm ((dh_.1 m1).2 h2 hl)
  subst this
  exact e1.symm.trans e2
theorem vk_ {A:Au} (hok:AuOk A) {k:Nat} (h:∀ p q:Nat,p<A.f.length→q<A.f.length→Eqk A k (p:Int) (q:Int)→Eqk A (k+1) (p:Int) (q:Int)):∀ (m:Nat) (p q:Nat),p<A.f.length→q<A.f.length→Eqk A k (p:Int) (q:Int)→Eqk A (k+m) (p:Int) (q:Int):=by
 intro m
 induction m with
 |zero=>exact fun p q _ _ e=>e
 |succ m ih=>
  intro p q hp hq e
  have e1:=h p q hp hq e
  obtain⟨f1,f2⟩:=Eqk.succ.1 e1
  refine Eqk.succ.2 ⟨f1,fun s hs=>?_⟩
  have hs':=bx_.1 hs
  obtain⟨a0,a1⟩:=db_ hok hs' (p:=(p:Int)) ⟨by omega,by omega⟩
  obtain⟨b0,b1⟩:=db_ hok hs' (p:=(q:Int)) ⟨by omega,by omega⟩
  have:=f2 s hs
  obtain⟨a,ha⟩:=Int.eq_ofNat_of_zero_le a0
  obtain⟨b,hb⟩:=Int.eq_ofNat_of_zero_le b0
  rw [ha,hb] at this ⊢
  exact ih a b (by omega) (by omega) this
open Classical in
theorem ac7 {A:Au} (hok:AuOk A) {p q:Nat} (hp:p<A.f.length) (hq:q<A.f.length) (h:Eqk A (A.f.length - 1) (p:Int) (q:Int)):Eqv A (p:Int) (q:Int):=by
  have hex :∃ k,k≤A.f.length - 1∧(ch_ A (k+1)).length≤(ch_ A k).length:=by
    refine Classical.byContradiction fun hn=>?_
    have hg:∀ k,k≤A.f.length→k+1≤(ch_ A k).length:=by
      intro k
      induction k with
      | zero=>
        intro _
        exact List.length_pos_iff.2 fun e=>by
          have:(0:Nat)∈ch_ A 0:=dh_.2 ⟨hok.lo,fun q hq=>absurd hq (Nat.not_lt_zero _)⟩
          rw [e] at this;cases this
      | succ k ih=>
        intro hk
        have h1:=ih (by omega)
        have h2:¬ (ch_ A (k+1)).length≤(ch_ A k).length:=fun e=>hn ⟨k,by omega,e⟩
        omega
    have h1:=hg A.f.length (Nat.le_refl _)
    have h2:(ch_ A A.f.length).length≤A.f.length:=by
      have:=List.length_filter_le (fun p=>decide (∀ q:Nat,q<p→ ¬ Eqk A A.f.length (q:Int) (p:Int))) (List.range A.f.length)
      rw [List.length_range] at this
      exact this
    omega
  obtain⟨k,hk,hle⟩:=hex
  have hst:=vk_ hok (k:=k) (fun p q hp hq e=>q7_ hle hp hq e)
  exact fun d e=>hst d p q hp hq (h.mono hk) d (by omega) e
end Go.Mn
namespace Go.Mn
open Go Go.Rt
def farK (A:Au):Nat→Int→Int→Int
 |0,p,q=>if finI A p≠finI A q then 0 else -1
 |r+1,p,q=>if 0≤farK A r p q then farK A r p q else if (ag_ A).any (fun s=>decide (farK A r (au_ A s p) (au_ A s q)=(r:Int))) then ((r+1:Nat):Int) else -1
def MinD (A:Au) (d:Nat) (p q:Int):Prop:=Dist A d p q∧ ∀ e,e<d→ ¬ Dist A e p q
theorem MinD.uniq {A:Au} {d e:Nat} {p q:Int} (h:MinD A d p q) (h2:MinD A e p q):d=e:=by
 rcases Nat.lt_trichotomy d e with hl|hl|hl
 ·exact absurd h.1 (h2.2 d hl)
 ·exact hl
 ·exact absurd h2.1 (h.2 e hl)
theorem lw_ {A:Au} {d:Nat} {p q:Int} (h:Eqk A d p q):MinD A (d+1) p q↔ ∃ s∈ag_ A,MinD A d (au_ A s p) (au_ A s q):=by
 constructor
 ·rintro⟨h1,h2⟩
  obtain⟨s,hs,h3⟩:=c4_.1 h1
  exact⟨s,hs,h3,fun e he h4=>h2 (e+1) (by omega) (c4_.2 ⟨s,hs,h4⟩)⟩
 ·rintro⟨s,hs,h1,h2⟩
  exact⟨c4_.2 ⟨s,hs,h1⟩,fun e he=>h e (by omega)⟩
theorem gf_ (A:Au):∀ (r:Nat) (p q:Int),(∀ d:Nat,farK A r p q=(d:Int)↔d≤r∧MinD A d p q)∧(farK A r p q= -1↔Eqk A r p q)∧ -1≤farK A r p q
  | 0, p,q=>by
    rw [farK]
    by_cases h:finI A p≠finI A q
    · rw [if_pos h]
      refine⟨fun d=>⟨fun e=>?_,fun⟨h1,h2⟩=>by omega⟩,⟨fun e=>by omega,fun e=>absurd (ca_.2 h) (e 0 (Nat.le_refl _))⟩,by omega⟩
      obtain rfl:d=0:=by omega
      exact⟨Nat.le_refl _,ca_.2 h,fun e he=>absurd he (Nat.not_lt_zero _)⟩
    · rw [if_neg h]
      refine⟨fun d=>⟨fun e=>by omega,fun⟨h1,h2⟩=>?_⟩,⟨fun _ d hd e=>?_,fun _=>rfl⟩,by omega⟩
      · obtain rfl:d=0:=by omega
        exact absurd (ca_.1 h2.1) h
      · obtain rfl:d=0:=by omega
        exact h (ca_.1 e)
  | r + 1, p,q=>by
    obtain⟨i1,i2,i3⟩:=gf_ A r p q
    rw [farK]
    by_cases h0:0≤farK A r p q
    · rw [if_pos h0]
      obtain⟨m,hm⟩:=Int.eq_ofNat_of_zero_le h0
      have hmin:=(i1 m).1 hm
      refine⟨fun d=>⟨fun e=>?_,fun⟨h1,h2⟩=>?_⟩,⟨fun e=>by omega,fun e=>absurd hmin.2.1 (e m (by omega))⟩,by omega⟩
      · have:=(i1 d).1 e
        exact⟨by omega,this.2⟩
      ·rw [hm,hmin.2.uniq h2]
    · rw [if_neg h0]
      have hE:=i2.1 (by omega)
      have hiff:=lw_ hE
      by_cases h1:(ag_ A).any (fun s=>decide (farK A r (au_ A s p) (au_ A s q)=(r:Int)))=true
      · rw [if_pos h1]
        obtain⟨s,hs,h2⟩:=List.any_eq_true.1 h1
        have h3:=((gf_ A r _ _).1 r).1 (of_decide_eq_true h2)
        have hmin:=hiff.2 ⟨s,hs,h3.2⟩
        refine⟨fun d=>⟨fun e=>?_,fun⟨h1,h2⟩=>?_⟩,⟨fun e=>by omega,fun e=>absurd hmin.1 (e (r+1) (Nat.le_refl _))⟩,by omega⟩
        · obtain rfl:d=r+1:=by omega
          exact⟨Nat.le_refl _,hmin⟩
        ·rw [hmin.uniq h2]
      · rw [if_neg h1]
        have hno:¬ ∃ s∈ag_ A,MinD A r (au_ A s p) (au_ A s q):=fun⟨s,hs,h2⟩=>h1 (List.any_eq_true.2 ⟨s,hs,decide_eq_true (((gf_ A r _ _).1 r).2 ⟨Nat.le_refl _,h2⟩)⟩)
        have hE2:Eqk A (r+1) p q:=fun d hd e=>by
          by_cases hdr:d≤r
          ·exact hE d hdr e
          · obtain rfl:d=r+1:=by omega
            exact hno (hiff.1 ⟨e,fun e he=>hE e (by omega)⟩)
        refine⟨fun d=>⟨fun e=>by omega,fun⟨h1,h2⟩=>absurd h2.1 (hE2 d h1)⟩,⟨fun _=>hE2,fun _=>rfl⟩,by omega⟩
theorem on_ {A:Au} {r d:Nat} {p q:Int}:farK A r p q=(d:Int)↔d≤r∧MinD A d p q:=(gf_ A r p q).1 d
theorem yh_ {A:Au} {r:Nat} {p q:Int}:farK A r p q<0↔Eqk A r p q:=by
 obtain⟨h1,h2,h3⟩:=gf_ A r p q
 exact⟨fun h=>h2.1 (by omega),fun h=>by have:=h2.2 h;omega⟩
def farA (A:Au) (p q:Int):Int:=farK A A.f.length p q
theorem lp_ {A:Au} (hok:AuOk A) {p q:Nat} (hp:p<A.f.length) (hq:q<A.f.length):farA A (p:Int) (q:Int)<0↔Eqv A (p:Int) (q:Int):=by
 unfold farA
 rw [yh_]
 exact⟨fun h=>ac7 hok hp hq (h.mono (by omega)),fun h d _=>h d⟩
def clsA (A:Au) (p:Nat):Nat:=((List.range A.f.length).find? fun (q:Nat)=>decide (farA A (p:Int) (q:Int)<0)).getD 0
theorem g4_ {n:Nat} {f:Nat→Bool} {p:Nat} (hp:p<n) (h:f p=true):∃ q,(List.range n).find? f=some q∧q≤p∧f q=true∧ ∀ r,r<q→f r=false:=by
 cases hf:(List.range n).find? f with
 |none=>
  have:=List.find?_eq_none.1 hf p (List.mem_range.2 hp)
  rw [h] at this;exact absurd rfl this
 |some q=>
  rw [List.find?_range_eq_some] at hf
  obtain⟨h1,h2,h3⟩:=hf
  have h3:∀ r,r<q→f r=false:=fun r hr=>by simpa using h3 r hr
  refine⟨q,rfl,?_,h1,h3⟩
  refine Classical.byContradiction fun hn=>?_
  rw [h3 p (by omega)] at h
  cases h
theorem ep_ {A:Au} (hok:AuOk A) {p:Nat} (hp:p<A.f.length):clsA A p≤p∧Eqv A (p:Int) (clsA A p:Int)∧ ∀ r,r<clsA A p→ ¬ Eqv A (p:Int) (r:Int):=by
 obtain⟨q,h1,h2,h3,h4⟩:=g4_ (f:=fun (q:Nat)=>decide (farA A (p:Int) (q:Int)<0)) hp (decide_eq_true ((lp_ hok hp hp).2 (Eqv.refl A _)))
 unfold clsA
 rw [h1,Option.getD_some]
 refine⟨h2,(lp_ hok hp (by omega)).1 (of_decide_eq_true h3),fun r hr e=>?_⟩
 have:=h4 r hr
 rw [decide_eq_true ((lp_ hok hp (by omega)).2 e)] at this
 cases this
theorem w0_ {A:Au} (hok:AuOk A) {p q:Nat} (hp:p<A.f.length) (hq:q<A.f.length):clsA A p=clsA A q↔Eqv A (p:Int) (q:Int):=by
 obtain⟨p1,p2,p3⟩:=ep_ hok hp
 obtain⟨q1,q2,q3⟩:=ep_ hok hq
 constructor
 ·intro h
  rw [h] at p2
  exact p2.trans q2.symm
 ·intro h
  rcases Nat.lt_trichotomy (clsA A p) (clsA A q) with hl|hl|hl
  ·exact absurd (h.symm.trans p2) (q3 _ hl)
  ·exact hl
  ·exact absurd (h.trans q2) (p3 _ hl)
theorem xe_ {A:Au} (hok:AuOk A) {p:Nat} (hp:p<A.f.length):clsA A (clsA A p)=clsA A p:=by
 obtain⟨p1,p2,p3⟩:=ep_ hok hp
 exact (w0_ hok (by omega) hp).2 p2.symm
theorem rd_ {A:Au} (hok:AuOk A) (h:Nat→Nat) (hle:∀ p,p<A.f.length→h p≤p) (hhh:∀ p,p<A.f.length→h (h p)=h p)
  (heq:∀ p q,p<A.f.length→q<A.f.length→Eqv A (p:Int) (q:Int)→h p=h q)
  (hf:∀ p q,p<A.f.length→q<A.f.length→h p=h q→finI A (p:Int)=finI A (q:Int))
  (hn:∀ p q,p<A.f.length→q<A.f.length→h p=h q→ ∀ s∈ag_ A,h (au_ A s (p:Int)).toNat=h (au_ A s (q:Int)).toNat):∀ p,p<A.f.length→h p=clsA A p:=by
 have key:∀ p q,p<A.f.length→q<A.f.length→h p=h q→Eqv A (p:Int) (q:Int):=fun p q hp hq e=>by
  refine aa4 (fun x y=>InA A x∧InA A y∧h x.toNat=h y.toNat) ?_ ?_ ⟨⟨by omega,by omega⟩,⟨by omega,by omega⟩,e⟩
  ·rintro x y ⟨⟨x0,x1⟩,⟨y0,y1⟩,e⟩
   have:=hf x.toNat y.toNat (by omega) (by omega) e
   rwa [Int.toNat_of_nonneg x0,Int.toNat_of_nonneg y0] at this
  ·rintro x y ⟨⟨x0,x1⟩,⟨y0,y1⟩,e⟩ s hs
   have hs':=bx_.1 hs
   have:=hn x.toNat y.toNat (by omega) (by omega) e s hs
   rw [Int.toNat_of_nonneg x0,Int.toNat_of_nonneg y0] at this
   exact⟨db_ hok hs' ⟨x0,x1⟩,db_ hok hs' ⟨y0,y1⟩,this⟩
 intro p hp
 obtain⟨p1,p2,p3⟩:=ep_ hok hp
 have h1:h p=h (clsA A p):=heq p _ hp (by omega) p2
 have h2:=hle _ (show clsA A p<A.f.length by omega)
 have h3:Eqv A (p:Int) (h p:Int):=key p (h p) hp (by have:=hle p hp;omega) (hhh p hp).symm
 rcases Nat.lt_or_ge (h p) (clsA A p) with hl|hl
 ·exact absurd h3 (p3 _ hl)
 ·omega
end Go.Mn
