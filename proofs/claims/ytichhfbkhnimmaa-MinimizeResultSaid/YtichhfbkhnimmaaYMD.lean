/- Automata, plainly: what is found, restricted automata. No condition. -/
import Derived.Test.YtichhfbkhnimmaaYMB
set_option linter.unusedSimpArgs false
set_option linter.unusedVariables false
set_option maxHeartbeats 400000
namespace Go.Mn
open Go Go.Rt
theorem pv_ {A:Au} (hok:AuOk A) {s:Int} {l:List Int} (hf:Fits A s l):0≤atI A s l∧atI A s l<(A.f.length:Int):=by
 obtain⟨i,p,row,q,rfl,hi,hrow,hp,hpl,hq,hat,hq0,hq1,hl2⟩:=hf.at hok
 rw [hat]
 exact⟨hq0,hq1⟩
theorem tn_ {A:Au} (hok:AuOk A) {i k p:Nat} (hk:A.r[i]?=some ((k:Nat):Int)):Fits A i (digs A.f.length k p):=by
 have hi:=(List.getElem?_eq_some_iff.1 hk).1
 have:=hok.lo
 exact⟨by omega,by omega,by simp [List.getD,hk,b8_],fun x hx=>c5_ (by omega) k p x hx⟩
def isB (n:Nat) (out:List Int):List Bool:=(List.range n).map fun (i:Nat)=>decide ((i:Int)∈out)
def a7_ (A:Au) (s:Int) (out:List Int) (l:List Int):List Int:=if atI A s l∈out then out else out++ [atI A s l]
theorem d5_ (n:Nat) (out:List Int):(isB n out).length=n:=by simp [isB]
theorem ff_ {n i:Nat} (hi:i<n) (out:List Int):(isB n out)[i]?=some (decide ((i:Int)∈out)):=by simp [isB,hi]
def bh_ (of:List Int):Nat→List Int→List (List Int)
 |0,l=> [l]
 |m+1,l=>of.flatMap fun s=>bh_ of m (l++ [s])
def bl_ (A:Au) (s:Int) (ls:List (List Int)) (out:List Int):List Int:=ls.foldl (a7_ A s) out
structure OutOk (A:Au) (out:List Int):Prop where
 rng:∀ x∈out,0≤x∧x<(A.f.length:Int)
 nd:out.Nodup
theorem OutOk.len {A:Au} {out:List Int} (h:OutOk A out):out.length≤A.f.length:=b9_ _ _ h.nd h.rng
theorem OutOk.nil (A:Au):OutOk A []:=⟨by simp,by simp⟩
theorem OutOk.step {A:Au} (hok:AuOk A) {s:Int} {l out:List Int} (hf:Fits A s l) (h:OutOk A out):OutOk A (a7_ A s out l):=by
 unfold a7_
 split
 ·exact h
 ·rename_i hn
  refine⟨fun x hx=>?_,List.nodup_append.2 ⟨h.nd,by simp,fun a ha b hb=>by simp at hb;subst hb;intro e;subst e;exact hn ha⟩⟩
  rcases List.mem_append.1 hx with hx|hx
  ·exact h.rng x hx
  ·simp at hx;subst hx;exact pv_ hok hf
theorem c2_ {A:Au} {s:Int} {of:List Int} (hs0:0≤s) (hs1:s<A.r.length) (hof:∀ x∈of,0≤x∧x<(A.f.length:Int)):∀ (m:Nat) (l:List Int),((l.length+m:Nat):Int)=A.r.getD s.toNat 0→(∀ x∈l,0≤x∧x<(A.f.length:Int))→ ∀ x∈bh_ of m l,Fits A s x
 |0,l,hl,hr,x,hx=>by
  simp only [bh_,List.mem_singleton] at hx
  subst hx
  exact⟨hs0,hs1,by simpa using hl,hr⟩
 |m+1,l,hl,hr,x,hx=>by
  simp only [bh_,List.mem_flatMap] at hx
  obtain⟨y,hy,hx⟩:=hx
  refine c2_ hs0 hs1 hof m (l++ [y]) (by rw [← hl];simp;omega) (fun z hz=>?_) x hx
  rcases List.mem_append.1 hz with hz|hz
  ·exact hr z hz
  ·simp at hz;subst hz;exact hof _ hy
theorem OutOk.all {A:Au} (hok:AuOk A) {s:Int}:∀ {ls:List (List Int)} {out:List Int},(∀ x∈ls,Fits A s x)→OutOk A out→OutOk A (bl_ A s ls out)
 | [],out,_,h=>h
 |l::ls,out,hf,h=>OutOk.all (ls:=ls) hok (fun x hx=>hf x (by simp [hx])) (h.step hok (hf l (by simp)))
theorem q6_ (A:Au) (s:Int) (l r:List (List Int)) (out:List Int):bl_ A s (l++r) out=bl_ A s r (bl_ A s l out):=by simp [bl_]
def symS (A:Au) (of:List Int) (o:List Int) (s:Nat):List Int:=bl_ A s (bh_ of (A.r.getD s 0).toNat []) o
def bi_ (A:Au) (of out:List Int) (j:Nat):List Int:=(List.range j).foldl (symS A of) out
def k2_ (A:Au) (out:List Int):List Int:=bi_ A out out A.r.length
def ar_ (A:Au):Nat→List Int
 |0=> []
 |k+1=>k2_ A (ar_ A k)
def ac_ (A:Au):List Int:=ar_ A (A.f.length+1)
theorem o4_ (A:Au) (s:Int) (out l:List Int):out <+: a7_ A s out l:=by
 unfold a7_;split
 ·exact List.prefix_refl _
 ·exact List.prefix_append ..
theorem eg_ (A:Au) (s:Int):∀ (ls:List (List Int)) (out:List Int),out <+: bl_ A s ls out
 | [],out=>List.prefix_refl _
 |x::r,out=>(o4_ A s out x).trans (eg_ A s r (a7_ A s out x))
theorem bo_ (A:Au) (of out:List Int) (j:Nat):bi_ A of out (j+1)=symS A of (bi_ A of out j) j:=by simp [bi_,List.range_succ]
theorem kt_ (A:Au) (of out:List Int):∀ j,out <+: bi_ A of out j
 |0=>List.prefix_refl _
 |j+1=>by rw [bo_];exact (kt_ A of out j).trans (eg_ ..)
theorem he_ (A:Au) (out:List Int):out <+: k2_ A out:=kt_ ..
theorem de_ {A:Au} (hok:AuOk A) {j:Nat} (hj:j<A.r.length):A.r[j]?=some (((A.r.getD j 0).toNat:Nat):Int)∧(A.r.getD j 0).toNat≤2∧A.r.getD j 0=(((A.r.getD j 0).toNat:Nat):Int):=by
 have h1:A.r.getD j 0=A.r[j]:=by simp [List.getD,hj]
 have h2:=hok.alpha.rng A.r[j] (by simp)
 rw [h1]
 have h3:(((A.r[j]).toNat:Nat):Int)=A.r[j]:=by omega
 refine⟨by rw [h3];simp,by omega,h3.symm⟩
theorem eq_ {A:Au} (hok:AuOk A) {of out:List Int} (hof:∀ x∈of,0≤x∧x<(A.f.length:Int)) (ho:OutOk A out):∀ j,j≤A.r.length→OutOk A (bi_ A of out j)
 |0,_=>ho
 |j+1,h=>by
  rw [bo_]
  obtain⟨r1,r2,r3⟩:=de_ hok (show j<A.r.length by omega)
  exact OutOk.all hok (c2_ (by omega) (by omega) hof _ [] (by rw [Int.toNat_natCast];simp only [List.length_nil,Nat.zero_add];exact r3.symm) (by simp)) (eq_ hok hof ho j (by omega))
theorem bn_ {A:Au} (hok:AuOk A):∀ k,OutOk A (ar_ A k)
 |0=>OutOk.nil A
 |k+1=>eq_ hok (bn_ hok k).rng (bn_ hok k) _ (Nat.le_refl _)
theorem cy_ {A:Au} {k:Nat} (h:(ar_ A (k+1)).length≤(ar_ A k).length):∀ m,ar_ A (k+m)=ar_ A k
 |0=>rfl
 |m+1=>by
  have h1:ar_ A (k+1)=ar_ A k:=(List.IsPrefix.eq_of_length_le (he_ A (ar_ A k)) h).symm
  have h2:ar_ A (k+(m+1))=k2_ A (ar_ A (k+m)):=rfl
  rw [h2,cy_ h m]
  exact h1
theorem gb_ {A:Au}:∀ k,(∀ j<k,(ar_ A j).length<(ar_ A (j+1)).length)→k≤(ar_ A k).length
 |0,_=>Nat.zero_le _
 |k+1,h=>by
  have:=gb_ k (fun j hj=>h j (by omega))
  have:=h k (by omega)
  omega
theorem kr_ {A:Au} (hok:AuOk A) {k:Nat} (hg:∀ j<k,(ar_ A j).length<(ar_ A (j+1)).length) (h:(ar_ A (k+1)).length≤(ar_ A k).length):ar_ A (k+1)=ac_ A:=by
 have h1:=gb_ k hg
 have h2:=(bn_ hok k).len
 have h3:=cy_ h (A.f.length+1 - k)
 rw [show k+(A.f.length+1 - k)=A.f.length+1 by omega] at h3
 unfold ac_
 rw [h3]
 exact cy_ h 1
def wasK (A:Au):Nat→Int
 |0=> -1
 |k+1=>((ar_ A k).length:Nat)
theorem of_ {r:List Int} (h:alphaE r=0):(0:Int)∈r:=by
 unfold alphaE at h
 split at h
 ·cases h
 ·split at h
  ·cases h
  ·split at h
   ·assumption
   ·cases h
theorem go_ {A:Au} (h:chk A=0):(0:Int)∈A.r:=by
 unfold chk at h
 split at h
 ·rename_i h0;exact absurd h h0
 ·rename_i h0
  exact of_ (by omega)
theorem lc_ {A:Au} (hok:AuOk A):k2_ A (ac_ A)=ac_ A:=by
 have hex:∃ k,k≤A.f.length∧(ar_ A (k+1)).length≤(ar_ A k).length:=by
  refine Classical.byContradiction fun hn=>?_
  have hg:∀ j<A.f.length+1,(ar_ A j).length<(ar_ A (j+1)).length:=fun j hj=>by
   refine Classical.byContradiction fun h=>hn ⟨j,by omega,by omega⟩
  have h1:=gb_ _ hg
  have h2:=(bn_ hok (A.f.length+1)).len
  omega
 obtain⟨k,hk,hle⟩:=hex
 have h1:=cy_ hle (A.f.length+1 - k)
 have h2:=cy_ hle (A.f.length+2 - k)
 rw [show k+(A.f.length+1 - k)=A.f.length+1 by omega] at h1
 rw [show k+(A.f.length+2 - k)=A.f.length+1+1 by omega] at h2
 have h3:k2_ A (ac_ A)=ar_ A (A.f.length+1+1):=rfl
 rw [h3,h2,← h1];rfl
theorem i0_ {of:List Int}:∀ {m:Nat} {l x:List Int},x∈bh_ of m l↔ ∃ ds,ds.length=m∧(∀ d∈ds,d∈of)∧x=l++ds
 |0,l,x=>by
  simp only [bh_,List.mem_singleton]
  constructor
  ·rintro rfl;exact⟨[],rfl,by simp,by simp⟩
  ·rintro⟨ds,h1,_,rfl⟩
   rw [List.eq_nil_of_length_eq_zero h1];simp
 |m+1,l,x=>by
  simp only [bh_,List.mem_flatMap,i0_]
  constructor
  ·rintro⟨s,hs,ds,h1,h2,rfl⟩
   refine⟨s::ds,by simp [h1],fun d hd=>?_,by simp⟩
   rcases List.mem_cons.1 hd with rfl|hd
   ·exact hs
   ·exact h2 d hd
  ·rintro⟨ds,h1,h2,rfl⟩
   cases ds with
   |nil=>simp at h1
   |cons s ds=>exact⟨s,h2 s (by simp),ds,by simpa using h1,fun d hd=>h2 d (by simp [hd]),by simp⟩
theorem kg_ {A:Au} {s:Int}:∀ {ls:List (List Int)} {out x:List Int},x∈ls→atI A s x∈bl_ A s ls out
 |l::ls,out,x,h=>by
  rcases List.mem_cons.1 h with rfl|h
  ·refine (eg_ A s ls (a7_ A s out x)).subset ?_
   unfold a7_;split
   ·assumption
   ·simp
  ·exact kg_ (ls:=ls) h
theorem l4_ (A:Au) (of out:List Int) {i j:Nat} (h:i≤j):bi_ A of out i <+: bi_ A of out j:=by
 induction h with
 |refl=>exact List.prefix_refl _
 |step _ ih=>exact ih.trans (by rw [bo_];exact eg_ ..)
theorem c3_ {A:Au} (hok:AuOk A) {i k:Nat} {ds:List Int} (hk:A.r[i]?=some (k:Int)) (hl:ds.length=k) (hd:∀ d∈ds,d∈ac_ A):atI A i ds∈ac_ A:=by
 have hi:=(List.getElem?_eq_some_iff.1 hk).1
 have h1:atI A i ds∈bi_ A (ac_ A) (ac_ A) (i+1):=by
  rw [bo_]
  exact kg_ (i0_.2 ⟨ds,by simp [List.getD,hk,hl],hd,by simp⟩)
 have h2:=(l4_ A (ac_ A) (ac_ A) (show i+1≤A.r.length by omega)).subset h1
 have h3:bi_ A (ac_ A) (ac_ A) A.r.length=ac_ A:=lc_ hok
 rw [h3] at h2
 exact h2
theorem eu_ {A:Au} (hok:AuOk A) (h0:(0:Int)∈A.r):ShutL A (ac_ A):=by
 have ho:=bn_ hok (A.f.length+1)
 have hn:=hok.hi
 refine⟨?_,by have:=ho.len;unfold ac_;omega,ho.nd,ho.rng,fun i k ds hk hl hd=>?_⟩
 ·obtain⟨i,hi⟩:=List.getElem?_of_mem h0
  have:=c3_ hok (k:=0) (ds:=[]) hi rfl (by simp)
  exact List.length_pos_iff.2 (fun e=>by rw [e] at this;simp at this)
 ·obtain⟨k,rfl⟩:=Int.eq_ofNat_of_zero_le (hok.alpha.rng _ (List.mem_of_getElem? hk)).1
  refine c3_ hok hk (by rw [List.length_map];omega) (fun d hd'=>?_)
  obtain⟨e,he,rfl⟩:=List.mem_map.1 hd'
  exact fw_ (hd e he)
noncomputable def wi_ (A:Au):Au × Nat:=open Classical in if chk A≠0 then (A00,chk A) else (aw_ A (ac_ A),0)
theorem s9_ {A:Au} (h:chk A≠0):wi_ A=(A00,chk A):=if_pos h
theorem pp_ {A:Au} (h:chk A=0):wi_ A=(aw_ A (ac_ A),0):=if_neg (by simp [h])
noncomputable def mp_ (A:Au):List Bool × Nat:=open Classical in if chk A≠0 then ([],chk A) else (isB A.f.length (ac_ A),0)
theorem qn_ {A:Au} (h:chk A≠0):mp_ A=([],chk A):=if_pos h
theorem ik_ {A:Au} (h:chk A=0):mp_ A=(isB A.f.length (ac_ A),0):=if_neg (by simp [h])
def phi (l:List Int) (d:Int):Int:=l.getD d.toNat 0
theorem od_ {l:List Int} {d:Int} (h:0≤d∧d<(l.length:Int)):phi l d∈l:=fw_ h
theorem t6_ {l:List Int} {x:Int} (h:x∈l):phi l (hasI l x)=x:=by
 rw [bz_ h]
 have h1:=List.idxOf_lt_length_of_mem h
 simp [phi,List.getD,h1]
theorem ou_ {l:List Int} (hn:l.Nodup) {d:Int} (h:0≤d∧d<(l.length:Int)):hasI l (phi l d)=d:=by
 rw [bz_ (od_ h)]
 obtain⟨m,rfl⟩:=Int.eq_ofNat_of_zero_le h.1
 have hm:m<l.length:=by omega
 rw [gh_ l m _ hn (by simp [phi,List.getD,hm])]
theorem te_ {l:List Int} (hn:l.Nodup) {c d:Int} (hc:0≤c∧c<(l.length:Int)) (hd:0≤d∧d<(l.length:Int)) (h:phi l c=phi l d):c=d:=by
 rw [← ou_ hn hc,← ou_ hn hd,h]
theorem u9_ {l:List Int} {x:Int} (h:x∈l):0≤hasI l x∧hasI l x<(l.length:Int):=by
 rw [bz_ h]
 have:=List.idxOf_lt_length_of_mem h
 omega
section
variable {A:Au} {l:List Int}
theorem gr_:(aw_ A l).f.length=l.length:=by simp [aw_,cj_]
theorem dm_:(aw_ A l).r=A.r:=rfl
theorem o7_ (hsh:ShutL A l) {i k:Nat} {ds:List Int} (hk:A.r[i]?=some (k:Int)) (hl:ds.length=k) (hd:∀ d∈ds,0≤d∧d<(l.length:Int)):atI A i (ds.map (phi l))∈l:=hsh.shut i k ds hk (by rw [hl]) hd
theorem ds_ (hk:chk A=0) (hsh:ShutL A l):AuOk (aw_ A l):=
 tu_ (ft_ hk) hsh.pos hsh.hi fun i k p hi hp=>u9_ (o7_ hsh hi (b8_ _ _ _) (c5_ hsh.pos k p))
theorem pa_ (hk:chk A=0) (hsh:ShutL A l):chk (aw_ A l)=0:=qh_ (show alphaE A.r=0 from ft_ hk) (ds_ hk hsh)
theorem iv_ {B:Au} (hok:AuOk B) {s:Int} {ds:List Int} (hf:Fits B s ds):∃ i:Nat,s=(i:Int)∧B.r[i]?=some (ds.length:Int):=by
 obtain⟨i,rfl⟩:=Int.eq_ofNat_of_zero_le hf.s0
 have hi:i<B.r.length:=by have:=hf.s1;omega
 refine⟨i,rfl,?_⟩
 have:=hf.len
 simp [List.getD,hi] at this
 simp [hi,this]
theorem yx_ (hk:chk A=0) (hsh:ShutL A l) {s:Int} {ds:List Int} (hf:Fits (aw_ A l) s ds):atI (aw_ A l) s ds=hasI l (atI A s (ds.map (phi l)))∧atI A s (ds.map (phi l))∈l:=by
 obtain⟨i,rfl,hi⟩:=iv_ (ds_ hk hsh) hf
 exact⟨rq_ hsh.pos hf,o7_ hsh hi rfl (fun d hd=>by have:=hf.rng d hd;rw [gr_] at this;exact this)⟩
theorem lg_ (hk:chk A=0) (hsh:ShutL A l) {s:Int} {ds:List Int} (hf:Fits (aw_ A l) s ds):phi l (atI (aw_ A l) s ds)=atI A s (ds.map (phi l)):=by
 obtain⟨h1,h2⟩:=yx_ hk hsh hf
 rw [h1,t6_ h2]
theorem nz_ (l:List Int) (of:List Int):∀ (m:Nat) (x:List Int),bh_ (of.map (phi l)) m (x.map (phi l))=(bh_ of m x).map (List.map (phi l))
 |0,x=>rfl
 |m+1,x=>by
  simp only [bh_,List.flatMap_map,List.map_flatMap]
  congr 1;funext s
  rw [← nz_ l of m (x++ [s])];simp
theorem us_ (hk:chk A=0) (hsh:ShutL A l) {s:Int} {ds out:List Int} (hf:Fits (aw_ A l) s ds) (ho:OutOk (aw_ A l) out):(a7_ (aw_ A l) s out ds).map (phi l)=a7_ A s (out.map (phi l)) (ds.map (phi l)):=by
 have h1:=lg_ hk hsh hf
 have h2:=pv_ (ds_ hk hsh) hf
 unfold a7_
 rw [← h1]
 have h3:phi l (atI (aw_ A l) s ds)∈out.map (phi l)↔atI (aw_ A l) s ds∈out:=by
  constructor
  ·intro h
   obtain⟨y,hy,e⟩:=List.mem_map.1 h
   have hr:=ho.rng y hy
   rw [gr_] at hr h2
   rw [← te_ hsh.nd hr h2 e];exact hy
  ·exact fun h=>List.mem_map_of_mem h
 by_cases h:atI (aw_ A l) s ds∈out
 ·rw [if_pos h,if_pos (h3.2 h)]
 ·rw [if_neg h,if_neg (fun e=>h (h3.1 e))];simp
theorem kq_ (hk:chk A=0) (hsh:ShutL A l) {s:Int}:∀ {ls:List (List Int)} {out:List Int},(∀ x∈ls,Fits (aw_ A l) s x)→OutOk (aw_ A l) out→(bl_ (aw_ A l) s ls out).map (phi l)=bl_ A s (ls.map (List.map (phi l))) (out.map (phi l))
 | [],out,_,_=>rfl
 |x::ls,out,hf,ho=>by
  show (bl_ (aw_ A l) s ls (a7_ (aw_ A l) s out x)).map (phi l)=bl_ A s (ls.map (List.map (phi l))) (a7_ A s (out.map (phi l)) (x.map (phi l)))
  rw [kq_ hk hsh (fun y hy=>hf y (by simp [hy])) (ho.step (ds_ hk hsh) (hf x (by simp))),us_ hk hsh (hf x (by simp)) ho]
theorem kn_ (hk:chk A=0) (hsh:ShutL A l) {of out:List Int} (hof:OutOk (aw_ A l) of) (ho:OutOk (aw_ A l) out):∀ j,j≤A.r.length→(bi_ (aw_ A l) of out j).map (phi l)=bi_ A (of.map (phi l)) (out.map (phi l)) j
 |0,_=>rfl
 |j+1,hj=>by
  have hok:=ds_ hk hsh
  obtain⟨r1,r2,r3⟩:=de_ hok (j:=j) (show j<(aw_ A l).r.length by rw [dm_];omega)
  rw [bo_,bo_,← kn_ hk hsh hof ho j (by omega)]
  unfold symS
  rw [kq_ hk hsh (c2_ (by omega) (by rw [dm_];omega) hof.rng _ [] (by rw [Int.toNat_natCast];simp only [List.length_nil,Nat.zero_add];exact r3.symm) (by simp)) (eq_ hok hof.rng ho j (by rw [dm_];omega))]
  rw [show (bh_ of ((aw_ A l).r.getD j 0).toNat []).map (List.map (phi l))=bh_ (of.map (phi l)) (A.r.getD j 0).toNat [] from (nz_ l of _ []).symm]
theorem kx_ (hk:chk A=0) (hsh:ShutL A l):∀ k,(ar_ (aw_ A l) k).map (phi l)=ar_ A k
 |0=>rfl
 |k+1=>by
  have ho:=bn_ (ds_ hk hsh) k
  show (bi_ (aw_ A l) _ _ (aw_ A l).r.length).map (phi l)=bi_ A _ _ A.r.length
  rw [dm_,kn_ hk hsh ho ho _ (Nat.le_refl _),kx_ hk hsh k]
theorem ks_ {B:Au} (hok:AuOk B) {m:Nat} (hm:B.f.length+1≤m):ar_ B m=ac_ B:=by
 have h1:(ar_ B (B.f.length+1+1)).length≤(ar_ B (B.f.length+1)).length:=by
  have:=lc_ hok
  show (k2_ B (ac_ B)).length≤(ac_ B).length
  rw [this];exact Nat.le_refl _
 have h2:=cy_ h1 (m - (B.f.length+1))
 rw [show B.f.length+1+(m - (B.f.length+1))=m by omega] at h2
 exact h2
theorem mw_ (hk:chk A=0) (hsh:ShutL A l):(ac_ (aw_ A l)).map (phi l)=ac_ A:=by
 rw [← ks_ (ds_ hk hsh) (m:=A.f.length+(aw_ A l).f.length+1) (by omega),← ks_ (a4_ hk) (m:=A.f.length+(aw_ A l).f.length+1) (by omega),kx_ hk hsh]
theorem zm_ {l m:List Int} (hm:∀ x∈m,0≤x∧x<(l.length:Int)) {d:Int} (hd:0≤d∧d<(m.length:Int)):phi (m.map (phi l)) d=phi l (phi m d):=by
 obtain⟨i,rfl⟩:=Int.eq_ofNat_of_zero_le hd.1
 have hi:i<m.length:=by omega
 simp [phi,List.getD,hi]
theorem h7_ {l:List Int} (hn:l.Nodup) {x:Int} (hx:0≤x∧x<(l.length:Int)):∀ {m:List Int},(∀ y∈m,0≤y∧y<(l.length:Int))→x∈m→(m.map (phi l)).idxOf (phi l x)=m.idxOf x
 | [],_,h=>by simp at h
 |a::m,hr,h=>by
  rw [List.map_cons,List.idxOf_cons,List.idxOf_cons]
  by_cases e:a=x
  ·subst e;simp
  ·have e2:¬ phi l a=phi l x:=fun h2=>e (te_ hn (hr a (by simp)) hx h2)
   rw [show (a == x)=false by simpa using e,show (phi l a == phi l x)=false by simpa using e2,cond_false,cond_false,h7_ hn hx (fun y hy=>hr y (by simp [hy])) ((List.mem_cons.1 h).resolve_left (fun h=>e h.symm))]
theorem rt_ (hk:chk A=0) (hsh:ShutL A l) {m:List Int} (hm:ShutL (aw_ A l) m):aw_ (aw_ A l) m=aw_ A (m.map (phi l)):=by
 have hmr:∀ x∈m,0≤x∧x<(l.length:Int):=fun x hx=>by have:=hm.rng x hx;rw [gr_] at this;exact this
 have hok:=ds_ hk hsh
 have hT:∀ (i k p:Nat),A.r[i]?=some (k:Int)→cu_ (aw_ A l) m i (digs m.length k p)=cu_ A (m.map (phi l)) i (digs m.length k p):=fun i k p hi=>by
  have hdr:=c5_ hm.pos k p
  have hfit:=hm.fits (i:=i) (k:=(k:Int)) (ds:=digs m.length k p) (by rw [dm_];exact hi) (by rw [b8_]) hdr
  have hmem:=hm.shut i k (digs m.length k p) (by rw [dm_];exact hi) (by rw [b8_]) hdr
  have h1:=lg_ hk hsh hfit
  have h2:(digs m.length k p).map (fun d=>(m.map (phi l)).getD d.toNat 0)=((digs m.length k p).map fun d=>m.getD d.toNat 0).map (phi l):=by
   rw [List.map_map]
   exact List.map_congr_left fun d hd=>zm_ hmr (hdr d hd)
  unfold cu_
  rw [h2,← h1,bz_ hmem,bz_ (List.mem_map_of_mem hmem),h7_ hsh.nd (hmr _ hmem) hmr hmem]
 have hF:∀ s,s<m.length→fz_ (aw_ A l) m s=fz_ A (m.map (phi l)) s:=fun s hs=>by
  have hq:=hmr m[s] (by simp)
  obtain⟨q,hq2⟩:=Int.eq_ofNat_of_zero_le hq.1
  have hql:q<l.length:=by omega
  simp [fz_,aw_,cj_,List.getD,hs,hq2,hql,phi]
 unfold aw_
 rw [List.length_map]
 show cj_ A.r _ _ _=cj_ A.r _ _ _
 unfold cj_
 congr 1
 ·exact List.map_congr_left fun s hs=>hF s (List.mem_range.1 hs)
 ·unfold aj_ az_
  refine List.map_congr_left fun i hi=>?_
  have hi':i<A.r.length:=List.mem_range.1 hi
  obtain⟨r1,r2,r3⟩:=de_ (a4_ hk) hi'
  refine List.map_congr_left fun p _=>?_
  exact hT i _ p r1
theorem sk_ (hk:chk A=0) (hsh:ShutL A l):aw_ (aw_ A l) (ac_ (aw_ A l))=aw_ A (ac_ A):=by
 have hok:=ds_ hk hsh
 have h0:=go_ (pa_ hk hsh)
 rw [rt_ hk hsh (eu_ hok h0),mw_ hk hsh]
end
end Go.Mn
namespace Go.Mn
open Go Go.Rt
structure Sp where
 sym:Int
 at_:Int
 other:Int
deriving DecidableEq
def Sp.args (s:Sp) (p:Int):List Int:=if s.other<0 then [p] else if s.at_=0 then [p,s.other] else [s.other,p]
def an_ (A:Au) (s:Sp) (p:Int):Int:=atI A s.sym (s.args p)
def ej_ (A:Au) (i:Nat):List Sp:=
 if A.r.getD i 0=1 then [⟨i,0, -1⟩]
 else if A.r.getD i 0=2 then (List.range 2).flatMap fun (w:Nat)=>((List.range A.f.length).filter fun (m:Nat)=>decide ((m:Int)∈ac_ A)).map fun (m:Nat)=>⟨i,w,m⟩
 else []
def ab_ (A:Au):List Sp:=(List.range A.r.length).flatMap (ej_ A)
structure SpOk (A:Au) (s:Sp):Prop where
 h:∃ i:Nat,s.sym=i∧i<A.r.length∧((A.r.getD i 0=1∧s.at_=0∧s.other= -1)∨(A.r.getD i 0=2∧(s.at_=0∨s.at_=1)∧0≤s.other∧s.other<A.f.length∧s.other∈ac_ A))
theorem a2_ {A:Au} {s:Sp}:s∈ab_ A↔SpOk A s:=by
 unfold ab_
 rw [List.mem_flatMap]
 constructor
 ·rintro ⟨i,hi,hs⟩
  rw [List.mem_range] at hi
  unfold ej_ at hs
  split at hs
  ·rename_i h1
   rw [List.mem_singleton] at hs
   subst hs
   exact⟨i,rfl,hi,.inl ⟨h1,rfl,rfl⟩⟩
  ·split at hs
   ·    rename_i h1 h2
        obtain⟨w,hw,hs⟩:=List.mem_flatMap.1 hs
        rw [List.mem_range] at hw
        obtain⟨m,hm,rfl⟩:=List.mem_map.1 hs
        rw [List.mem_filter,List.mem_range] at hm
        exact⟨i,rfl,hi,.inr ⟨h2,by show (w:Int)=0∨(w:Int)=1;omega,by show 0≤(m:Int);omega,by show (m:Int)<_;omega,of_decide_eq_true hm.2⟩⟩
   ·cases hs
 ·rintro⟨i,h1,h2,h3⟩
  refine⟨i,List.mem_range.2 h2,?_⟩
  obtain⟨sy,w,o⟩:=s
  simp only at h1 h3
  subst h1
  unfold ej_
  rcases h3 with⟨h3,h4,h5⟩| ⟨h3,h4,h5,h6,h7⟩
  ·rw [if_pos h3,h4,h5];exact List.mem_singleton.2 rfl
  ·rw [if_neg (by omega),if_pos h3]
   obtain⟨m,rfl⟩:=Int.eq_ofNat_of_zero_le h5
   obtain⟨v,rfl⟩:∃ v:Nat,w=v:=⟨w.toNat,by omega⟩
   exact List.mem_flatMap.2 ⟨v,List.mem_range.2 (by omega),List.mem_map.2 ⟨m,List.mem_filter.2 ⟨List.mem_range.2 (by omega),decide_eq_true h7⟩,rfl⟩⟩
def InA (A:Au) (p:Int):Prop:=0≤p∧p<(A.f.length:Int)
theorem i4_ {A:Au} {s:Sp} (hs:SpOk A s) {p:Int} (hp:InA A p):Fits A s.sym (s.args p):=by
 obtain⟨i,h1,h2,h3⟩:=hs
 obtain⟨q0,q1⟩:=hp
 refine⟨by omega,by omega,?_,?_⟩
 ·rw [h1,Int.toNat_natCast]
  unfold Sp.args
  rcases h3 with⟨h3,h4,h5⟩| ⟨h3,h4,h5,h6,h7⟩
  ·rw [if_pos (by omega),h3];rfl
  ·rw [if_neg (by omega),h3];split <;> rfl
 ·intro  x hx
  unfold Sp.args at hx
  split at hx
  ·rw [List.mem_singleton] at hx;subst hx;exact⟨q0,q1⟩
  ·rcases h3 with⟨h3,h4,h5⟩| ⟨h3,h4,h5,h6,h7⟩
   ·omega
   ·    split at hx
        ·simp only [List.mem_cons,List.not_mem_nil,or_false] at hx
         rcases hx with rfl|rfl
         ·exact⟨q0,q1⟩
         ·exact⟨h5,h6⟩
        ·simp only [List.mem_cons,List.not_mem_nil,or_false] at hx
         rcases hx with rfl|rfl
         ·exact⟨h5,h6⟩
         ·exact⟨q0,q1⟩
theorem b4_ {A:Au} (hok:AuOk A) {s:Sp} (hs:SpOk A s) {p:Int} (hp:InA A p):InA A (an_ A s p):=pv_ hok (i4_ hs hp)
def finI (A:Au) (p:Int):Bool:=A.f.getD p.toNat false
def cb_ (A:Au) (l:List Sp) (p:Int):Int:=l.foldl (fun q s=>an_ A s q) p
def aee (A:Au) (l:List Sp) (p q:Int):Prop:=(∀ s∈l,s∈ab_ A)∧finI A (cb_ A l p)≠finI A (cb_ A l q)
def Dist (A:Au) (d:Nat) (p q:Int):Prop:= ∃ l:List Sp,l.length=d∧aee A l p q
theorem b6_ {A:Au} {p q:Int}:Dist A 0 p q↔finI A p≠finI A q:=by
 constructor
 ·rintro⟨l,hl,h⟩
  obtain rfl:=List.eq_nil_of_length_eq_zero hl
  exact h.2
 ·exact fun h=>⟨[],rfl,⟨fun s hs=>(by cases hs),h⟩⟩
theorem b1_ {A:Au} {d:Nat} {p q:Int}:Dist A (d+1) p q↔ ∃ s∈ab_ A,Dist A d (an_ A s p) (an_ A s q):=by
 constructor
 ·rintro⟨l,hl,h1,h2⟩
  cases l with
  |nil=>cases hl
  |cons s l=>exact⟨s,h1 s (by simp),l,by simpa using hl,fun x hx=>h1 x (by simp [hx]),h2⟩
 ·rintro⟨s,hs,l,hl,h1,h2⟩
  exact⟨s::l,by simp [hl],fun x hx=>by
   rcases List.mem_cons.1 hx with rfl|hx
   ·exact hs
   ·exact h1 x hx,h2⟩
def Eqk (A:Au) (k:Nat) (p q:Int):Prop:= ∀ d,d≤k→ ¬ Dist A d p q
def Eqv (A:Au) (p q:Int):Prop:= ∀ d,¬ Dist A d p q
theorem qe_ {A:Au} {d:Nat} {p:Int}:¬ Dist A d p p:=fun⟨l,_,h⟩=>h.2 rfl
theorem ml_ {A:Au} {d:Nat} {p q:Int} (h:Dist A d p q):Dist A d q p:=by
 obtain⟨l,hl,h1,h2⟩:=h
 exact⟨l,hl,h1,fun e=>h2 e.symm⟩
theorem k1_ {A:Au} {d:Nat} {p q r:Int} (h:Dist A d p r):Dist A d p q∨Dist A d q r:=by
 obtain⟨l,hl,h1,h2⟩:=h
 by_cases e:finI A (cb_ A l p)=finI A (cb_ A l q)
 ·exact .inr ⟨l,hl,h1,fun e2=>h2 (e.trans e2)⟩
 ·exact .inl ⟨l,hl,h1,e⟩
theorem Eqk.refl (A:Au) (k:Nat) (p:Int):Eqk A k p p:=fun d _=>qe_
theorem Eqk.symm {A:Au} {k:Nat} {p q:Int} (h:Eqk A k p q):Eqk A k q p:=fun d hd e=>h d hd (ml_ e)
theorem Eqk.trans {A:Au} {k:Nat} {p q r:Int} (h:Eqk A k p q) (h2:Eqk A k q r):Eqk A k p r:=fun d hd e=>(k1_ e).elim (h d hd) (h2 d hd)
theorem Eqv.refl (A:Au) (p:Int):Eqv A p p:=fun d=>qe_
theorem Eqv.symm {A:Au} {p q:Int} (h:Eqv A p q):Eqv A q p:=fun d e=>h d (ml_ e)
theorem Eqv.trans {A:Au} {p q r:Int} (h:Eqv A p q) (h2:Eqv A q r):Eqv A p r:=fun d e=>(k1_ e).elim (h d) (h2 d)
theorem Eqv.next {A:Au} {p q:Int} (h:Eqv A p q) {s:Sp} (hs:s∈ab_ A):Eqv A (an_ A s p) (an_ A s q):=fun d e=>h (d+1) (b1_.2 ⟨s,hs,e⟩)
theorem Eqv.fin {A:Au} {p q:Int} (h:Eqv A p q):finI A p=finI A q:=Classical.byContradiction fun e=>h 0 (b6_.2 e)
theorem Eqk.succ {A:Au} {k:Nat} {p q:Int}:Eqk A (k+1) p q↔finI A p=finI A q∧ ∀ s∈ab_ A,Eqk A k (an_ A s p) (an_ A s q):=by
 constructor
 ·refine fun h=>⟨Classical.byContradiction fun e=>h 0 (by omega) (b6_.2 e),fun s hs d hd e=>h (d+1) (by omega) (b1_.2 ⟨s,hs,e⟩)⟩
 ·rintro⟨h1,h2⟩ d hd e
  cases d with
  |zero=>exact b6_.1 e h1
  |succ d=>
   obtain⟨s,hs,e⟩:=b1_.1 e
   exact h2 s hs d (by omega) e
theorem Eqk.mono {A:Au} {j k:Nat} {p q:Int} (hjk:j≤k) (h:Eqk A k p q):Eqk A j p q:=fun d hd=>h d (by omega)
theorem abp {A:Au} (R:Int→Int→Prop) (hf:∀ p q,R p q→finI A p=finI A q) (hn:∀ p q,R p q→ ∀ s∈ab_ A,R (an_ A s p) (an_ A s q)) {p q:Int} (h:R p q):Eqv A p q:=by
 have key:∀ d p q,R p q→ ¬ Dist A d p q:=by
  intro d
  induction d with
  |zero=>exact fun p q h e=>b6_.1 e (hf p q h)
  |succ d ih=>
   intro p q h e
   obtain⟨s,hs,e⟩:=b1_.1 e
   exact ih _ _ (hn p q h s hs) e
 exact fun d=>key d p q h
open Classical in
noncomputable def cn_ (A:Au) (k:Nat):List Nat:=(List.range A.f.length).filter fun p=>decide (∀ q:Nat,q<p→ ¬ Eqk A k (q:Int) (p:Int))
open Classical in
theorem do_ {A:Au} {k p:Nat}:p∈cn_ A k↔p<A.f.length∧ ∀ q:Nat,q<p→ ¬ Eqk A k (q:Int) (p:Int):=by
 unfold cn_
 rw [List.mem_filter,List.mem_range,decide_eq_true_iff]
theorem o9_ (A:Au) (k:Nat):∀ p:Nat,p<A.f.length→ ∃ h∈cn_ A k,h≤p∧Eqk A k (h:Int) (p:Int):=by
 intro p
 induction p using Nat.strongRecOn with
 |_ p ih=>
  intro hp
  by_cases hh:p∈cn_ A k
  ·exact⟨p,hh,Nat.le_refl _,Eqk.refl A k _⟩
  · have:∃ q:Nat,q<p∧Eqk A k (q:Int) (p:Int):=Classical.byContradiction fun hn=>hh (do_.2 ⟨hp,fun q hq e=>hn ⟨q,hq,e⟩⟩)
    obtain⟨q,hq,e⟩:=this
    obtain⟨h,h1,h2,h3⟩:=ih q hq (by omega)
    exact⟨h,h1,by omega,h3.trans e⟩
theorem q1_ (A:Au) (k:Nat):∀ p∈cn_ A k,p∈cn_ A (k+1):=fun p hp=>by
 obtain⟨h1,h2⟩:=do_.1 hp
 exact do_.2 ⟨h1,fun q hq e=>h2 q hq (e.mono (by omega))⟩
open Classical in
theorem rc_ {A:Au} {k:Nat} (h:(cn_ A (k+1)).length≤(cn_ A k).length) {p q:Nat} (hp:p<A.f.length) (hq:q<A.f.length) (e:Eqk A k (p:Int) (q:Int)):Eqk A (k+1) (p:Int) (q:Int):=by
  have hsub:List.Sublist (cn_ A k) (cn_ A (k+1)):=by
    unfold cn_
    have : ∀ l:List Nat,(∀ p∈l,p∈cn_ A k→p∈cn_ A (k+1))→List.Sublist (l.filter fun p=>decide (∀ q:Nat,q<p→ ¬ Eqk A k (q:Int) (p:Int))) (l.filter fun p=>decide (∀ q:Nat,q<p→ ¬ Eqk A (k+1) (q:Int) (p:Int))):=by
      intro l
      induction l with
      |nil=>intro _;exact List.Sublist.refl _
      | cons x xs ih=>
        intro hx
        have ihx:=ih fun p hp=>hx p (List.mem_cons_of_mem _ hp)
        rw [List.filter_cons,List.filter_cons]
        by_cases h1:(∀ q:Nat,q<x→ ¬ Eqk A k (q:Int) (x:Int))
        · have h2:(∀ q:Nat,q<x→ ¬ Eqk A (k+1) (q:Int) (x:Int)):=fun q hq e=>h1 q hq (e.mono (by omega))
          rw [if_pos (decide_eq_true h1),if_pos (decide_eq_true h2)]
          exact ihx.cons_cons _
        · rw [if_neg (by rw [decide_eq_true_iff];exact h1)]
          split
          ·exact ihx.cons _
          ·exact ihx
    exact this _ fun p _ hp=>q1_ A k p hp
  have heq:=hsub.eq_of_length_le h
  obtain⟨h1,m1,_,e1⟩:=o9_ A (k+1) p hp
  obtain⟨h2,m2,_,e2⟩:=o9_ A (k+1) q hq
  rw [← heq] at m1 m2
  have e3:Eqk A k (h1:Int) (h2:Int):=((e1.mono (by omega)).trans e).trans (e2.mono (by omega)).symm
  have:h1=h2:=by
    rcases Nat.lt_trichotomy h1 h2 with hl|hl|hl
    ·exact absurd e3 ((do_.1 m2).2 h1 hl)
    ·exact hl
    ·exact absurd e3.symm ((do_.1 m1).2 h2 hl)
  subst this
  exact e1.symm.trans e2
theorem vh_ {A:Au} (hok:AuOk A) {k:Nat} (h:∀ p q:Nat,p<A.f.length→q<A.f.length→Eqk A k (p:Int) (q:Int)→Eqk A (k+1) (p:Int) (q:Int)):∀ (m:Nat) (p q:Nat),p<A.f.length→q<A.f.length→Eqk A k (p:Int) (q:Int)→Eqk A (k+m) (p:Int) (q:Int):=by
 intro m
 induction m with
 |zero=>exact fun p q _ _ e=>e
 |succ m ih=>
  intro p q hp hq e
  have e1:=h p q hp hq e
  obtain⟨f1,f2⟩:=Eqk.succ.1 e1
  refine Eqk.succ.2 ⟨f1,fun s hs=>?_⟩
  have hs':=a2_.1 hs
  obtain⟨a0,a1⟩:=b4_ hok hs' (p:=(p:Int)) ⟨by omega,by omega⟩
  obtain⟨b0,b1⟩:=b4_ hok hs' (p:=(q:Int)) ⟨by omega,by omega⟩
  have:=f2 s hs
  obtain⟨a,ha⟩:=Int.eq_ofNat_of_zero_le a0
  obtain⟨b,hb⟩:=Int.eq_ofNat_of_zero_le b0
  rw [ha,hb] at this ⊢
  exact ih a b (by omega) (by omega) this
open Classical in
theorem aer {A:Au} (hok:AuOk A) {p q:Nat} (hp:p<A.f.length) (hq:q<A.f.length) (h:Eqk A (A.f.length - 1) (p:Int) (q:Int)):Eqv A (p:Int) (q:Int):=by
  have hex :∃ k,k≤A.f.length - 1∧(cn_ A (k+1)).length≤(cn_ A k).length:=by
    refine Classical.byContradiction fun hn=>?_
    have hg:∀ k,k≤A.f.length→k+1≤(cn_ A k).length:=by
      intro k
      induction k with
      | zero=>
        intro _
        exact List.length_pos_iff.2 fun e=>by
          have:(0:Nat)∈cn_ A 0:=do_.2 ⟨hok.lo,fun q hq=>absurd hq (Nat.not_lt_zero _)⟩
          rw [e] at this;cases this
      | succ k ih=>
        intro hk
        have h1:=ih (by omega)
        have h2:¬ (cn_ A (k+1)).length≤(cn_ A k).length:=fun e=>hn ⟨k,by omega,e⟩
        omega
    have h1:=hg A.f.length (Nat.le_refl _)
    have h2:(cn_ A A.f.length).length≤A.f.length:=by
      have:=List.length_filter_le (fun p=>decide (∀ q:Nat,q<p→ ¬ Eqk A A.f.length (q:Int) (p:Int))) (List.range A.f.length)
      rw [List.length_range] at this
      exact this
    omega
  obtain⟨k,hk,hle⟩:=hex
  have hst:=vh_ hok (k:=k) (fun p q hp hq e=>rc_ hle hp hq e)
  exact fun d e=>hst d p q hp hq (h.mono hk) d (by omega) e
end Go.Mn
