/- Contracts over data: few, steps. No condition. -/
import Derived.Test.YtichhfbkhnimmaaYD3
set_option linter.unusedSimpArgs false
set_option linter.unusedVariables false
set_option maxHeartbeats 4000000
set_option maxRecDepth 8000
namespace Go.Proofs.Ytichhfbkhnimmaa
open Go Go.RowKit Go.PP Go.Dm Go.Rt Go.Mn
def fewB (A:Au):Bool:=decide (A.f.length≤6∧A.r.length≤6∧A.to.length≤8∧ ∀ l∈A.to,l.length≤40)
theorem mj_ {A:Au} (h:fewB A=true):Few A:=by
 obtain⟨h1,h2,h3,h4⟩:=of_decide_eq_true h
 exact⟨by omega,by omega,by omega,fun l hl=>by have:=h4 l hl;omega⟩
theorem zg_ (A:Au):DFun Try.prog 11 [auD A] (.flat (.bool (fewB A))):=by
 unfold fewB
 obtain⟨rs,fs,tt⟩:=A
 simp only [dj_]
 have hpt:∀ (i:Nat) (r:List Int),tt[i]?=some r→partD false 1 (i*1) (ag_ tt)=some (.sl false 1 r.length (r.map fun x=>D.flat (.int .i64 x))):=fun i r h=>c8_ h
 have hLT:=al_ tt
 generalize (rs.map fun x=>D.flat (.int .i64 x))=LR at*
 generalize (fs.map fun x=>D.flat (.bool x))=LB at*
 generalize ag_ tt=LT at*
 refine DFun.enterA Try.func11 Try.ntmps11 ?_
 by_cases c1:6<fs.length
 ·rw [decide_eq_false (by omega)]
  clear hpt
  refine DW.walk ?_
  exact⟨.inr rfl,ResOk.one [] rfl rfl trivial (Vw.pers rfl)⟩
 ·by_cases   c2:6<rs.length
  ·rw [decide_eq_false (by omega)]
   clear hpt
   refine DW.walk ?_
   exact⟨.inr rfl,ResOk.one [] rfl rfl trivial (Vw.pers rfl)⟩
  ·by_cases  c3:8<tt.length
   ·    rw [decide_eq_false (by omega)]
        clear hpt
        refine DW.walk ?_
        exact⟨.inr rfl,ResOk.one [] rfl rfl trivial (Vw.pers rfl)⟩
   ·    by_cases c4:∃ j:Nat,∃ l,tt[j]?=some l∧40<l.length
        ·obtain⟨j,⟨l,h1,h2⟩,h3⟩:=bf_ c4
         rw [decide_eq_false (fun h=>by have:=h.2.2.2 l (List.mem_of_getElem? h1);omega)]
         have hjl:=(List.getElem?_eq_some_iff.1 h1).1
         refine DW.walk ?_
         refine DW.loopA (fun i:Nat=>⟨[(1,.ref 1 0),(3,.flat (.int .i64 ((i:Nat):Int)))],[(1,some (.box [.sl false 1 rs.length LR,.sl false 1 fs.length LB,.sl false 1 tt.length LT]))]⟩) (fun i=>i≤j) (fun i=>j - i) 0 ?_ (Nat.zero_le _)
         intro i hi
         rcases Nat.lt_or_ge i j with hlt|hge
         ·  obtain⟨r,hri⟩:∃ r,tt[i]?=some r:=⟨_,List.getElem?_eq_getElem (by omega)⟩
            have hp:=hpt i r hri
            have hr4:¬ 40<r.length:=fun h=>h3 i hlt ⟨r,hri,h⟩
            clear hpt h1 h2 h3 hri c4
            refine DW.walk ?_
            exact⟨i+1,by omega,by omega,Sub.auto⟩
         ·  obtain rfl:i=j:=by omega
            have hp:=hpt i l h1
            clear hpt h1 h3 c4
            refine DW.walk ?_
            exact⟨.inr rfl,ResOk.one [] rfl rfl trivial (Vw.pers rfl)⟩
        ·have h4:∀ (i:Nat) r,tt[i]?=some r→r.length≤40:=fun i r h=>Classical.byContradiction fun hn=>c4 ⟨i,r,h,by omega⟩
         rw  [decide_eq_true ⟨by omega,by omega,by omega,fun l hl=>by
            obtain⟨i,hi⟩:=List.getElem?_of_mem hl
            exact h4 i l hi⟩]
         clear c4
         refine DW.walk ?_
         refine DW.loopA (fun i:Nat=>⟨[(1,.ref 1 0),(3,.flat (.int .i64 ((i:Nat):Int)))],[(1,some (.box [.sl false 1 rs.length LR,.sl false 1 fs.length LB,.sl false 1 tt.length LT]))]⟩) (fun i=>i≤tt.length) (fun i=>tt.length - i) 0 ?_ (Nat.zero_le _)
         intro i hi
         rcases Nat.lt_or_ge i tt.length with hlt|hge
         ·  obtain⟨r,hri⟩:∃ r,tt[i]?=some r:=⟨_,List.getElem?_eq_getElem (by omega)⟩
            have hp:=hpt i r hri
            have hr4:¬ 40<r.length:=by have:=h4 i r hri;omega
            clear hpt h4 hri
            refine DW.walk ?_
            exact⟨i+1,by omega,by omega,Sub.auto⟩
         ·  obtain rfl:i=tt.length:=by omega
            clear hpt h4
            refine DW.walk ?_
            exact⟨.inr rfl,ResOk.one [] rfl rfl trivial (Vw.pers rfl)⟩
theorem afj (A:Au) (hok:AuOk A) (s:Int) (l:List Int) (hf:Fits A s l):DFun Try.prog 72 [auD A,.flat (.int .i64 s),.sl false 1 l.length (l.map fun x=>D.flat (.int .i64 x))] (.flat (.int .i64 (atI A s l))):=by
 obtain⟨i,p,row,q,rfl,hi,hrow,hp,hpl,hq,hat,hq0,hq1,hl2⟩:=hf.at hok
 rw [hat]
 have hn:=hok.hi
 have hr:=hf.rng
 have hpd:=fun j (hj:j<l.length)=>ql_ hn hr hl2 hj
 have hpt:=c8_ hrow
 have hpq:=as_ hq
 have hpx:∀ (i:Nat) (x:Int),l[i]?=some x→partD false 1 (i*1) (l.map fun x=>D.flat (.int .i64 x))=some (.flat (.int .i64 x)):=fun i x h=>as_ h
 have hrl:row.length≤1000000:=by
  have:=(bs_ hok).l row (List.mem_of_getElem? hrow)
  exact this
 have htl:A.to.length≤1000000:=(bs_ hok).t
 obtain⟨rs,fs,tt⟩:=A
 simp only [dj_] at*
 generalize (l.map fun x=>D.flat (.int .i64 x))=LL at*
 generalize (row.map fun x=>D.flat (.int .i64 x))=LX at*
 generalize (rs.map fun x=>D.flat (.int .i64 x))=LR at*
 generalize (fs.map fun x=>D.flat (.bool x))=LB at*
 generalize ag_ tt=LT at*
 clear hat hrow hq hf hok
 refine DFun.enterA Try.func72 Try.ntmps72 ?_
 refine DW.walk ?_
 refine DW.loopA (fun j:Nat=>⟨[(3,.ref 3 0),(1,.flat (.int .i64 ((i:Nat):Int))),(7,.flat (.int .i64 (a0_ fs.length (l.take j)))),(10,.sl false 1 l.length LL),(11,.flat (.int .i64 ((l.length:Nat):Int))),(12,.flat (.int .i64 ((j:Nat):Int)))],[(3,some (.box [.sl false 1 rs.length LR,.sl false 1 fs.length LB,.sl false 1 tt.length LT]))]⟩) (fun j=>j≤l.length) (fun j=>l.length - j) 0 ?_ (Nat.zero_le _)
 intro j hj
 rcases Nat.lt_or_ge j l.length with hlt|hge
 ·obtain⟨x,hx⟩:∃ x,l[j]?=some x:=⟨_,List.getElem?_eq_getElem hlt⟩
  have hpj:=hpx j x hx
  obtain⟨b1,b2,b3,b4⟩:=hpd j hlt
  have hx2:=hr x (List.mem_of_getElem? hx)
  have ht:=hn_ (n:=fs.length) hx
  generalize hP1:a0_ fs.length (l.take (j+1))=P1 at*
  generalize a0_ fs.length (l.take j)=P0 at*
  obtain⟨M,hM⟩:∃ M,M=P0*(fs.length:Int):=⟨_,rfl⟩
  rw [← hM] at b3 b4 ht
  have hm:IntKind.i64.wrap (P0*(fs.length:Int))=M:=by rw [← hM,IntKind.wrap_i64];omega
  have ha:IntKind.i64.wrap (M+x)=P1:=by rw [ht,IntKind.wrap_i64];omega
  clear hpx hpd hr hx hM b1 b2 b3 b4 hx2 ht
  refine DW.walk ?_
  exact⟨j+1,by omega,by omega,by rw [hP1];exact Sub.auto⟩
 ·obtain rfl:j=l.length:=by omega
  rw [List.take_length,hp]
  clear hpx hpd hr
  refine DW.walk ?_
  exact⟨.inr rfl,ResOk.one [] rfl rfl trivial (Vw.pers rfl)⟩
theorem iy_ (A:Au) (hok:AuOk A) (s:Int) (l:List Int) (hf:Fits A s l):DFun Try.prog 58 [auD A,.flat (.int .i64 s),.sl false 1 l.length (l.map fun x=>D.flat (.int .i64 x))] (.tup [.flat (.int .i64 (atI A s l)),.flat (.int .i64 0)]):=by
 have hlen:=hf.len
 obtain⟨i,p,row,q,rfl,hi,hrow,hp,hpl,hq,hat,hq0,hq1,hl2⟩:=hf.at hok
 rw [hat]
 have hn:=hok.hi
 have hir:i<A.r.length:=by rw [← hok.len];exact hi
 have hrk:A.r[i]?=some (l.length:Int):=by
  rw [Int.toNat_natCast,List.getD_eq_getElem?_getD,List.getElem?_eq_getElem hir] at hlen
  rw [List.getElem?_eq_getElem hir,hlen];rfl
 have hr:=hf.rng
 have hpd:=fun j (hj:j<l.length)=>ql_ hn hr hl2 hj
 have hpr:=as_ hrk
 have hpt:=c8_ hrow
 have hpq:=as_ hq
 have hpx:∀ (i:Nat) (x:Int),l[i]?=some x→partD false 1 (i*1) (l.map fun x=>D.flat (.int .i64 x))=some (.flat (.int .i64 x)):=fun i x h=>as_ h
 have hrl:row.length≤1000000:=(bs_ hok).l row (List.mem_of_getElem? hrow)
 have htl:A.to.length≤1000000:=(bs_ hok).t
 obtain⟨rs,fs,tt⟩:=A
 simp only [dj_] at*
 generalize (l.map fun x=>D.flat (.int .i64 x))=LL at*
 generalize (row.map fun x=>D.flat (.int .i64 x))=LX at*
 generalize (rs.map fun x=>D.flat (.int .i64 x))=LR at*
 generalize (fs.map fun x=>D.flat (.bool x))=LB at*
 generalize ag_ tt=LT at*
 clear hat hrow hq hf hok hrk hlen
 refine DFun.enterA Try.func58 Try.ntmps58 ?_
 refine DW.walk ?_
 refine DW.loopA (fun j:Nat=>⟨[(3,.ref 3 0),(1,.flat (.int .i64 ((i:Nat):Int))),(2,.sl false 1 l.length LL),(6,.flat (.int .i64 0)),(7,.flat (.int .i64 0)),(8,.flat (.int .i64 (a0_ fs.length (l.take j)))),(9,.flat (.int .i64 ((j:Nat):Int)))],[(3,some (.box [.sl false 1 rs.length LR,.sl false 1 fs.length LB,.sl false 1 tt.length LT]))]⟩) (fun j=>j≤l.length) (fun j=>l.length - j) 0 ?_ (Nat.zero_le _)
 intro j hj
 rcases Nat.lt_or_ge j l.length with hlt|hge
 ·obtain⟨x,hx⟩:∃ x,l[j]?=some x:=⟨_,List.getElem?_eq_getElem hlt⟩
  have hpj:=hpx j x hx
  obtain⟨b1,b2,b3,b4⟩:=hpd j hlt
  have hx2:=hr x (List.mem_of_getElem? hx)
  have hx3:¬ x<0:=by omega
  have hx4:¬ (fs.length:Int)≤x:=by omega
  have ht:=hn_ (n:=fs.length) hx
  generalize hP1:a0_ fs.length (l.take (j+1))=P1 at*
  generalize a0_ fs.length (l.take j)=P0 at*
  obtain⟨M,hM⟩:∃ M,M=P0*(fs.length:Int):=⟨_,rfl⟩
  rw [← hM] at b3 b4 ht
  have hm:IntKind.i64.wrap (P0*(fs.length:Int))=M:=by rw [← hM,IntKind.wrap_i64];omega
  have ha:IntKind.i64.wrap (M+x)=P1:=by rw [ht,IntKind.wrap_i64];omega
  clear hpx hpd hr hx hM b1 b2 b3 b4 hx2 ht
  refine DW.walk ?_
  exact⟨j+1,by omega,by omega,by rw [hP1];exact Sub.auto⟩
 ·obtain rfl:j=l.length:=by omega
  rw [List.take_length,hp]
  clear hpx hpd hr
  refine DW.walk ?_
  exact⟨.inr rfl,ResOk.two [] rfl rfl rfl trivial (Vw.pers rfl) (Vw.pers rfl)⟩
theorem w3_ (A:Au):DFun Try.prog 14 [auD A] (auD A):=by
 obtain⟨rs,fs,tt⟩:=A
 simp only [dj_]
 generalize (rs.map fun x=>D.flat (.int .i64 x))=LR at*
 generalize (fs.map fun x=>D.flat (.bool x))=LB at*
 generalize ag_ tt=LT at*
 refine DFun.enterA Try.func14 Try.ntmps14 ?_
 refine DW.walk ?_
 exact⟨.inr rfl,ResOk.cellA [] rfl rfl rfl TyI.ag TyI.sz trivial (.cons (Vw.pers rfl) (.cons (Vw.pers rfl) (.cons (Vw.pers rfl) .nil))) (Le.refl _)⟩
theorem afo (A:Au):DFun Try.prog 28 [auD A] (auD A):=by
 obtain⟨rs,fs,tt⟩:=A
 simp only [dj_]
 generalize (rs.map fun x=>D.flat (.int .i64 x))=LR at*
 generalize (fs.map fun x=>D.flat (.bool x))=LB at*
 generalize ag_ tt=LT at*
 refine DFun.enterA Try.func28 Try.ntmps28 ?_
 refine DW.walk ?_
 exact⟨.inr rfl,ResOk.cellA [] rfl rfl rfl TyI.ag TyI.sz trivial (.cons (Vw.pers rfl) (.cons (Vw.pers rfl) (.cons (Vw.pers rfl) .nil))) (Le.refl _)⟩
def spD (s:Sp):D:= .agg [.flat (.int .i64 s.sym),.flat (.int .i64 s.at_),.flat (.int .i64 s.other)]
theorem wu_ (sy w o:Int):spD ⟨sy,w,o⟩= .agg [.flat (.int .i64 sy),.flat (.int .i64 w),.flat (.int .i64 o)]:=rfl
theorem zp_ (A:Au) (hok:AuOk A) (s:Sp) (hs:SpOk A s) (p:Int) (hp:InA A p):DFun Try.prog 23 [auD A,spD s,.flat (.int .i64 p)] (.flat (.int .i64 (an_ A s p))):=by
 have hf:=i4_ hs hp
 have hst:=iy_ A hok s.sym (s.args p) hf
 obtain⟨i,h1,h2,h3⟩:=hs
 unfold an_
 generalize atI A s.sym (s.args p)=q at*
 obtain⟨sy,w,o⟩:=s
 simp only at h1 h3
 unfold Sp.args at hst
 simp only at hst
 rw [wu_]
 obtain⟨rs,fs,tt⟩:=A
 simp only [dj_] at*
 generalize (rs.map fun x=>D.flat (.int .i64 x))=LR at*
 generalize (fs.map fun x=>D.flat (.bool x))=LB at*
 generalize ag_ tt=LT at*
 clear hf h2
 rcases h3 with⟨h3,h4,h5⟩| ⟨h3,h4,h5,h6,h7⟩
 ·rw [if_pos (by omega)] at hst
  have hst:DFun Try.prog 58 [.agg [.sl false 1 rs.length LR,.sl false 1 fs.length LB,.sl false 1 tt.length LT],.flat (.int .i64 sy),.sl false 1 1 [.flat (.int .i64 p)]] (.tup [.flat (.int .i64 q),.flat (.int .i64 0)]):=hst
  subst h5
  clear h3 h1
  refine DFun.enterA Try.func23 Try.ntmps23 ?_
  refine DW.walk ?_
  exact⟨.inr rfl,ResOk.one [] rfl rfl trivial (Vw.pers rfl)⟩
 ·rw [if_neg (by omega)] at hst
  clear h3 h1 h6 h7
  rcases h4 with rfl|rfl
  ·rw [if_pos rfl] at hst
   have hst:DFun Try.prog 58 [.agg [.sl false 1 rs.length LR,.sl false 1 fs.length LB,.sl false 1 tt.length LT],.flat (.int .i64 sy),.sl false 1 2 [.flat (.int .i64 p),.flat (.int .i64 o)]] (.tup [.flat (.int .i64 q),.flat (.int .i64 0)]):=hst
   refine DFun.enterA Try.func23 Try.ntmps23 ?_
   refine DW.walk ?_
   exact⟨.inr rfl,ResOk.one [] rfl rfl trivial (Vw.pers rfl)⟩
  ·rw [if_neg (by decide)] at hst
   have hst:DFun Try.prog 58 [.agg [.sl false 1 rs.length LR,.sl false 1 fs.length LB,.sl false 1 tt.length LT],.flat (.int .i64 sy),.sl false 1 2 [.flat (.int .i64 o),.flat (.int .i64 p)]] (.tup [.flat (.int .i64 q),.flat (.int .i64 0)]):=hst
   refine DFun.enterA Try.func23 Try.ntmps23 ?_
   refine DW.walk ?_
   exact⟨.inr rfl,ResOk.one [] rfl rfl trivial (Vw.pers rfl)⟩
theorem yy_ {A:Au} (hok:AuOk A) {s:Sp} (hs:SpOk A s) {p:Int} (hp:InA A p):∃ (i P:Nat) (row:List Int) (q:Int),s.sym=i∧i<A.to.length∧A.to[i]?=some row∧P<row.length∧row[P]?=some q∧an_ A s p=q∧a0_ A.f.length (s.args p)=P:=by
 obtain⟨i,P,row,q,h1,h2,h3,h4,h5,h6,h7,_,_,_⟩:=(i4_ hs hp).at hok
 exact⟨i,P,row,q,h1,h2,h3,h5,h6,h7,h4⟩
theorem wo_ (A:Au) (hok:AuOk A) (s:Sp) (hs:SpOk A s) (p:Int) (hp:InA A p):DFun Try.prog 55 [spD s,auD A,.flat (.int .i64 p)] (.flat (.int .i64 (an_ A s p))):=by
 obtain⟨i,P,row,q,h1,h2,hrow,hPl,hq,hn,hpl⟩:=yy_ hok hs hp
 rw [hn]
 obtain⟨i',h1',h2',h3⟩:=hs
 obtain⟨p0,p1⟩:=hp
 obtain⟨m,rfl⟩:=Int.eq_ofNat_of_zero_le p0
 have hpt:=c8_ hrow
 have hpq:=as_ hq
 have hn:=hok.hi
 have hrl:row.length≤1000000:=(bs_ hok).l row (List.mem_of_getElem? hrow)
 have htl:A.to.length≤1000000:=(bs_ hok).t
 clear h1'
 obtain⟨sy,w,o⟩:=s
 simp only at h1 h3 hpl
 subst h1
 rw [wu_]
 unfold Sp.args at hpl
 simp only at hpl
 obtain⟨rs,fs,tt⟩:=A
 simp only [dj_] at*
 generalize (row.map fun x=>D.flat (.int .i64 x))=LX at*
 generalize (rs.map fun x=>D.flat (.int .i64 x))=LR at*
 generalize (fs.map fun x=>D.flat (.bool x))=LB at*
 generalize ag_ tt=LT at*
 clear hq hrow hok h2'
 have hmn:m<fs.length:=by omega
 rcases h3 with⟨h3,h4,h5⟩| ⟨h3,h4,h5,h6,h7⟩
 ·rw [if_pos (by omega)] at hpl
  have hpl:0*(fs.length:Int)+(m:Int)=(P:Int):=hpl
  have hmP:m=P:=by omega
  subst hmP
  subst h5
  clear h3 hpl h4
  refine DFun.enterA Try.func55 Try.ntmps55 ?_
  refine DW.walk ?_
  exact⟨.inr rfl,ResOk.one [] rfl rfl trivial (Vw.pers rfl)⟩
 ·rw [if_neg (by omega)] at hpl
  obtain⟨b,rfl⟩:=Int.eq_ofNat_of_zero_le h5
  have hbn:b<fs.length:=by omega
  have ho1:¬ (b:Int)= -1:=by omega
  clear h3 h6 h7 h5 p0 p1
  rcases h4 with rfl|rfl
  ·rw [if_pos rfl] at hpl
   have hpl:(0*(fs.length:Int)+(m:Int))*(fs.length:Int)+(b:Int)=(P:Int):=hpl
   rw [Int.zero_mul,Int.zero_add] at hpl
   obtain⟨M,hM⟩:∃ M:Nat,M=m*fs.length:=⟨_,rfl⟩
   have hM2:M≤262144:=by rw [hM];exact Nat.mul_le_mul (show m≤512 by omega) (show fs.length≤512 by omega)
   rw [← Int.natCast_mul,← hM] at hpl
   have hm:IntKind.i64.wrap ((m:Int)*(fs.length:Int))=(M:Int):=by rw [← Int.natCast_mul,← hM,IntKind.wrap_i64];omega
   have ha:IntKind.i64.wrap ((M:Int)+(b:Int))=(P:Int):=by rw [IntKind.wrap_i64];omega
   clear hM hpl hM2
   refine DFun.enterA Try.func55 Try.ntmps55 ?_
   refine DW.walk ?_
   exact⟨.inr rfl,ResOk.one [] rfl rfl trivial (Vw.pers rfl)⟩
  ·rw [if_neg (by decide)] at hpl
   have hpl:(0*(fs.length:Int)+(b:Int))*(fs.length:Int)+(m:Int)=(P:Int):=hpl
   rw [Int.zero_mul,Int.zero_add] at hpl
   obtain⟨M,hM⟩:∃ M:Nat,M=b*fs.length:=⟨_,rfl⟩
   have hM2:M≤262144:=by rw [hM];exact Nat.mul_le_mul (show b≤512 by omega) (show fs.length≤512 by omega)
   rw [← Int.natCast_mul,← hM] at hpl
   have hm:IntKind.i64.wrap ((b:Int)*(fs.length:Int))=(M:Int):=by rw [← Int.natCast_mul,← hM,IntKind.wrap_i64];omega
   have ha:IntKind.i64.wrap ((M:Int)+(m:Int))=(P:Int):=by rw [IntKind.wrap_i64];omega
   clear hM hpl hM2
   refine DFun.enterA Try.func55 Try.ntmps55 ?_
   refine DW.walk ?_
   exact⟨.inr rfl,ResOk.one [] rfl rfl trivial (Vw.pers rfl)⟩
theorem wk_ (l r:List Int) (hl:l.length≤1000000000) (hr:r.length≤1000000000):DFun Try.prog 62 [.sl false 1 l.length (l.map fun x=>D.flat (.int .i64 x)),.sl false 1 r.length (r.map fun x=>D.flat (.int .i64 x))] (.flat (.bool (decide (l=r)))):=by
 have hpl:∀ (i:Nat) (x:Int),l[i]?=some x→partD false 1 (i*1) (l.map fun x=>D.flat (.int .i64 x))=some (.flat (.int .i64 x)):=fun i x h=>as_ h
 have hpr:∀ (i:Nat) (x:Int),r[i]?=some x→partD false 1 (i*1) (r.map fun x=>D.flat (.int .i64 x))=some (.flat (.int .i64 x)):=fun i x h=>as_ h
 have hp1:=ad_ l
 have hp2:=ad_ r
 generalize (l.map fun x=>D.flat (.int .i64 x))=LL at*
 generalize (r.map fun x=>D.flat (.int .i64 x))=LX at*
 refine DFun.enterA Try.func62 Try.ntmps62 ?_
 by_cases hlr:l.length=r.length
 ·rw [←  hlr] at hr ⊢
  by_cases hd:∃ i:Nat,∃ x y,l[i]?=some x∧r[i]?=some y∧x≠y
  ·obtain⟨j,⟨x,y,h1,h2,hne⟩,h4⟩:=bf_ hd
   rw [decide_eq_false (fun e=>by rw [e,h2] at h1;exact hne (Option.some.inj h1).symm)]
   have hjl:=(List.getElem?_eq_some_iff.1 h1).1
   clear hd
   refine DW.walk ?_
   refine DW.loopA (fun i:Nat=>⟨[(0,.sl false 1 l.length LL),(1,.sl false 1 l.length LX),(5,.flat (.int .i64 ((i:Nat):Int)))],[]⟩) (fun i=>i≤j) (fun i=>j - i) 0 ?_ (Nat.zero_le _)
   intro i hi
   rcases Nat.lt_or_ge i j with hlt|hge
   ·    obtain⟨u,hu⟩:∃ u,l[i]?=some u:=⟨_,List.getElem?_eq_getElem (by omega)⟩
        obtain⟨v,hv⟩:∃ v,r[i]?=some v:=⟨_,List.getElem?_eq_getElem (by omega)⟩
        have huv:u=v:=Classical.byContradiction fun h=>h4 i hlt ⟨u,v,hu,hv,h⟩
        have q1:=hpl i u hu
        have q2:=hpr i v hv
        subst huv
        clear hpl hpr h1 h2 h4 hne hu hv
        have huu:¬ u≠u:=fun h=>h rfl
        refine DW.walk ?_
        exact⟨i+1,by omega,by omega,Sub.auto⟩
   ·    obtain rfl:i=j:=by omega
        have q1:=hpl i x h1
        have q2:=hpr i y h2
        clear hpl hpr h1 h2 h4
        refine DW.walk ?_
        exact⟨.inr rfl,ResOk.one [] rfl rfl trivial (Vw.pers rfl)⟩
  ·have   he:l=r:=List.ext_getElem? fun i=>by
        rcases Nat.lt_or_ge i l.length with h|h
        ·have e1:=List.getElem?_eq_getElem h
         have e2:=List.getElem?_eq_getElem (l:=r) (i:=i) (by omega)
         rw [e1,e2]
         exact congrArg some (Classical.byContradiction fun hn=>hd ⟨i,_,_,e1,e2,hn⟩)
        ·rw [List.getElem?_eq_none h,List.getElem?_eq_none (by omega)]
   rw [decide_eq_true he]
   subst he
   clear hd hlr
   refine DW.walk ?_
   refine DW.loopA (fun i:Nat=>⟨[(0,.sl false 1 l.length LL),(1,.sl false 1 l.length LX),(5,.flat (.int .i64 ((i:Nat):Int)))],[]⟩) (fun i=>i≤l.length) (fun i=>l.length - i) 0 ?_ (Nat.zero_le _)
   intro i hi
   rcases Nat.lt_or_ge i l.length with hlt|hge
   ·    obtain⟨u,hu⟩:∃ u,l[i]?=some u:=⟨_,List.getElem?_eq_getElem (by omega)⟩
        have q1:=hpl i u hu
        have q2:=hpr i u hu
        clear hpl hpr hu
        have huu:¬ u≠u:=fun h=>h rfl
        refine DW.walk ?_
        exact⟨i+1,by omega,by omega,Sub.auto⟩
   ·    obtain rfl:i=l.length:=by omega
        clear hpl hpr
        refine DW.walk ?_
        exact⟨.inr rfl,ResOk.one [] rfl rfl trivial (Vw.pers rfl)⟩
 ·rw [decide_eq_false (fun e=>hlr (by rw [e]))]
  clear hpl hpr
  refine DW.walk ?_
  exact⟨.inr rfl,ResOk.one [] rfl rfl trivial (Vw.pers rfl)⟩
theorem acd (l r:List Int) (hl:l.length≤1000000000) (hr:r.length≤1000000000):DFun Try.prog 29 [.sl false 1 l.length (l.map fun x=>D.flat (.int .i64 x)),.sl false 1 r.length (r.map fun x=>D.flat (.int .i64 x))] (.flat (.bool (decide (l=r)))):=by
 have hpl:∀ (i:Nat) (x:Int),l[i]?=some x→partD false 1 (i*1) (l.map fun x=>D.flat (.int .i64 x))=some (.flat (.int .i64 x)):=fun i x h=>as_ h
 have hpr:∀ (i:Nat) (x:Int),r[i]?=some x→partD false 1 (i*1) (r.map fun x=>D.flat (.int .i64 x))=some (.flat (.int .i64 x)):=fun i x h=>as_ h
 have hp1:=ad_ l
 have hp2:=ad_ r
 generalize (l.map fun x=>D.flat (.int .i64 x))=LL at*
 generalize (r.map fun x=>D.flat (.int .i64 x))=LX at*
 refine DFun.enterA Try.func29 Try.ntmps29 ?_
 by_cases hlr:l.length=r.length
 ·rw [←  hlr] at hr ⊢
  by_cases hd:∃ i:Nat,∃ x y,l[i]?=some x∧r[i]?=some y∧x≠y
  ·obtain⟨j,⟨x,y,h1,h2,hne⟩,h4⟩:=bf_ hd
   rw [decide_eq_false (fun e=>by rw [e,h2] at h1;exact hne (Option.some.inj h1).symm)]
   have hjl:=(List.getElem?_eq_some_iff.1 h1).1
   clear hd
   refine DW.walk ?_
   refine DW.loopA (fun i:Nat=>⟨[(0,.sl false 1 l.length LL),(1,.sl false 1 l.length LX),(5,.flat (.int .i64 ((i:Nat):Int)))],[]⟩) (fun i=>i≤j) (fun i=>j - i) 0 ?_ (Nat.zero_le _)
   intro i hi
   rcases Nat.lt_or_ge i j with hlt|hge
   ·    obtain⟨u,hu⟩:∃ u,l[i]?=some u:=⟨_,List.getElem?_eq_getElem (by omega)⟩
        obtain⟨v,hv⟩:∃ v,r[i]?=some v:=⟨_,List.getElem?_eq_getElem (by omega)⟩
        have huv:u=v:=Classical.byContradiction fun h=>h4 i hlt ⟨u,v,hu,hv,h⟩
        have q1:=hpl i u hu
        have q2:=hpr i v hv
        subst huv
        clear hpl hpr h1 h2 h4 hne hu hv
        have huu:¬ u≠u:=fun h=>h rfl
        refine DW.walk ?_
        exact⟨i+1,by omega,by omega,Sub.auto⟩
   ·    obtain rfl:i=j:=by omega
        have q1:=hpl i x h1
        have q2:=hpr i y h2
        clear hpl hpr h1 h2 h4
        refine DW.walk ?_
        exact⟨.inr rfl,ResOk.one [] rfl rfl trivial (Vw.pers rfl)⟩
  ·have   he:l=r:=List.ext_getElem? fun i=>by
        rcases Nat.lt_or_ge i l.length with h|h
        ·have e1:=List.getElem?_eq_getElem h
         have e2:=List.getElem?_eq_getElem (l:=r) (i:=i) (by omega)
         rw [e1,e2]
         exact congrArg some (Classical.byContradiction fun hn=>hd ⟨i,_,_,e1,e2,hn⟩)
        ·rw [List.getElem?_eq_none h,List.getElem?_eq_none (by omega)]
   rw [decide_eq_true he]
   subst he
   clear hd hlr
   refine DW.walk ?_
   refine DW.loopA (fun i:Nat=>⟨[(0,.sl false 1 l.length LL),(1,.sl false 1 l.length LX),(5,.flat (.int .i64 ((i:Nat):Int)))],[]⟩) (fun i=>i≤l.length) (fun i=>l.length - i) 0 ?_ (Nat.zero_le _)
   intro i hi
   rcases Nat.lt_or_ge i l.length with hlt|hge
   ·    obtain⟨u,hu⟩:∃ u,l[i]?=some u:=⟨_,List.getElem?_eq_getElem (by omega)⟩
        have q1:=hpl i u hu
        have q2:=hpr i u hu
        clear hpl hpr hu
        have huu:¬ u≠u:=fun h=>h rfl
        refine DW.walk ?_
        exact⟨i+1,by omega,by omega,Sub.auto⟩
   ·    obtain rfl:i=l.length:=by omega
        clear hpl hpr
        refine DW.walk ?_
        exact⟨.inr rfl,ResOk.one [] rfl rfl trivial (Vw.pers rfl)⟩
 ·rw [decide_eq_false (fun e=>hlr (by rw [e]))]
  clear hpl hpr
  refine DW.walk ?_
  exact⟨.inr rfl,ResOk.one [] rfl rfl trivial (Vw.pers rfl)⟩
theorem aci (l r:List Int) (hl:l.length≤1000000000) (hr:r.length≤1000000000):DFun Try.prog 63 [.sl false 1 l.length (l.map fun x=>D.flat (.int .i64 x)),.sl false 1 r.length (r.map fun x=>D.flat (.int .i64 x))] (.flat (.bool (decide (l=r)))):=by
 have hpl:∀ (i:Nat) (x:Int),l[i]?=some x→partD false 1 (i*1) (l.map fun x=>D.flat (.int .i64 x))=some (.flat (.int .i64 x)):=fun i x h=>as_ h
 have hpr:∀ (i:Nat) (x:Int),r[i]?=some x→partD false 1 (i*1) (r.map fun x=>D.flat (.int .i64 x))=some (.flat (.int .i64 x)):=fun i x h=>as_ h
 have hp1:=ad_ l
 have hp2:=ad_ r
 generalize (l.map fun x=>D.flat (.int .i64 x))=LL at*
 generalize (r.map fun x=>D.flat (.int .i64 x))=LX at*
 refine DFun.enterA Try.func63 Try.ntmps63 ?_
 by_cases hlr:l.length=r.length
 ·rw [←  hlr] at hr ⊢
  by_cases hd:∃ i:Nat,∃ x y,l[i]?=some x∧r[i]?=some y∧x≠y
  ·obtain⟨j,⟨x,y,h1,h2,hne⟩,h4⟩:=bf_ hd
   rw [decide_eq_false (fun e=>by rw [e,h2] at h1;exact hne (Option.some.inj h1).symm)]
   have hjl:=(List.getElem?_eq_some_iff.1 h1).1
   clear hd
   refine DW.walk ?_
   refine DW.loopA (fun i:Nat=>⟨[(0,.sl false 1 l.length LL),(1,.sl false 1 l.length LX),(11,.sl false 1 l.length LL),(12,.flat (.int .i64 ((l.length:Nat):Int))),(13,.flat (.int .i64 ((i:Nat):Int)))],[]⟩) (fun i=>i≤j) (fun i=>j - i) 0 ?_ (Nat.zero_le _)
   intro i hi
   rcases Nat.lt_or_ge i j with hlt|hge
   ·    obtain⟨u,hu⟩:∃ u,l[i]?=some u:=⟨_,List.getElem?_eq_getElem (by omega)⟩
        obtain⟨v,hv⟩:∃ v,r[i]?=some v:=⟨_,List.getElem?_eq_getElem (by omega)⟩
        have huv:u=v:=Classical.byContradiction fun h=>h4 i hlt ⟨u,v,hu,hv,h⟩
        have q1:=hpl i u hu
        have q2:=hpr i v hv
        subst huv
        clear hpl hpr h1 h2 h4 hne hu hv
        have huu:¬ u≠u:=fun h=>h rfl
        refine DW.walk ?_
        exact⟨i+1,by omega,by omega,Sub.auto⟩
   ·    obtain rfl:i=j:=by omega
        have q1:=hpl i x h1
        have q2:=hpr i y h2
        clear hpl hpr h1 h2 h4
        refine DW.walk ?_
        exact⟨.inr rfl,ResOk.one [] rfl rfl trivial (Vw.pers rfl)⟩
  ·have   he:l=r:=List.ext_getElem? fun i=>by
        rcases Nat.lt_or_ge i l.length with h|h
        ·have e1:=List.getElem?_eq_getElem h
         have e2:=List.getElem?_eq_getElem (l:=r) (i:=i) (by omega)
         rw [e1,e2]
         exact congrArg some (Classical.byContradiction fun hn=>hd ⟨i,_,_,e1,e2,hn⟩)
        ·rw [List.getElem?_eq_none h,List.getElem?_eq_none (by omega)]
   rw [decide_eq_true he]
   subst he
   clear hd hlr
   refine DW.walk ?_
   refine DW.loopA (fun i:Nat=>⟨[(0,.sl false 1 l.length LL),(1,.sl false 1 l.length LX),(11,.sl false 1 l.length LL),(12,.flat (.int .i64 ((l.length:Nat):Int))),(13,.flat (.int .i64 ((i:Nat):Int)))],[]⟩) (fun i=>i≤l.length) (fun i=>l.length - i) 0 ?_ (Nat.zero_le _)
   intro i hi
   rcases Nat.lt_or_ge i l.length with hlt|hge
   ·    obtain⟨u,hu⟩:∃ u,l[i]?=some u:=⟨_,List.getElem?_eq_getElem (by omega)⟩
        have q1:=hpl i u hu
        have q2:=hpr i u hu
        clear hpl hpr hu
        have huu:¬ u≠u:=fun h=>h rfl
        refine DW.walk ?_
        exact⟨i+1,by omega,by omega,Sub.auto⟩
   ·    obtain rfl:i=l.length:=by omega
        clear hpl hpr
        refine DW.walk ?_
        exact⟨.inr rfl,ResOk.one [] rfl rfl trivial (Vw.pers rfl)⟩
 ·rw [decide_eq_false (fun e=>hlr (by rw [e]))]
  clear hpl hpr
  refine DW.walk ?_
  exact⟨.inr rfl,ResOk.one [] rfl rfl trivial (Vw.pers rfl)⟩
theorem aai (l r:List Int) (hl:l.length≤1000000000) (hr:r.length≤1000000000):DFun Try.prog 67 [.sl false 1 l.length (l.map fun x=>D.flat (.int .i64 x)),.sl false 1 r.length (r.map fun x=>D.flat (.int .i64 x))] (.flat (.bool (decide (l=r)))):=by
 have hpl:∀ (i:Nat) (x:Int),l[i]?=some x→partD false 1 (i*1) (l.map fun x=>D.flat (.int .i64 x))=some (.flat (.int .i64 x)):=fun i x h=>as_ h
 have hpr:∀ (i:Nat) (x:Int),r[i]?=some x→partD false 1 (i*1) (r.map fun x=>D.flat (.int .i64 x))=some (.flat (.int .i64 x)):=fun i x h=>as_ h
 have hp1:=ad_ l
 have hp2:=ad_ r
 generalize (l.map fun x=>D.flat (.int .i64 x))=LL at*
 generalize (r.map fun x=>D.flat (.int .i64 x))=LX at*
 refine DFun.enterA Try.func67 Try.ntmps67 ?_
 by_cases hlr:l.length=r.length
 ·rw [←  hlr] at hr ⊢
  by_cases hd:∃ i:Nat,∃ x y,l[i]?=some x∧r[i]?=some y∧x≠y
  ·obtain⟨j,⟨x,y,h1,h2,hne⟩,h4⟩:=bf_ hd
   rw [decide_eq_false (fun e=>by rw [e,h2] at h1;exact hne (Option.some.inj h1).symm)]
   have hjl:=(List.getElem?_eq_some_iff.1 h1).1
   clear hd
   refine DW.walk ?_
   refine DW.loopA (fun i:Nat=>⟨[(0,.sl false 1 l.length LL),(1,.sl false 1 l.length LX),(11,.sl false 1 l.length LL),(12,.flat (.int .i64 ((l.length:Nat):Int))),(13,.flat (.int .i64 ((i:Nat):Int)))],[]⟩) (fun i=>i≤j) (fun i=>j - i) 0 ?_ (Nat.zero_le _)
   intro i hi
   rcases Nat.lt_or_ge i j with hlt|hge
   ·    obtain⟨u,hu⟩:∃ u,l[i]?=some u:=⟨_,List.getElem?_eq_getElem (by omega)⟩
        obtain⟨v,hv⟩:∃ v,r[i]?=some v:=⟨_,List.getElem?_eq_getElem (by omega)⟩
        have huv:u=v:=Classical.byContradiction fun h=>h4 i hlt ⟨u,v,hu,hv,h⟩
        have q1:=hpl i u hu
        have q2:=hpr i v hv
        subst huv
        clear hpl hpr h1 h2 h4 hne hu hv
        have huu:¬ u≠u:=fun h=>h rfl
        refine DW.walk ?_
        exact⟨i+1,by omega,by omega,Sub.auto⟩
   ·    obtain rfl:i=j:=by omega
        have q1:=hpl i x h1
        have q2:=hpr i y h2
        clear hpl hpr h1 h2 h4
        refine DW.walk ?_
        exact⟨.inr rfl,ResOk.one [] rfl rfl trivial (Vw.pers rfl)⟩
  ·have   he:l=r:=List.ext_getElem? fun i=>by
        rcases Nat.lt_or_ge i l.length with h|h
        ·have e1:=List.getElem?_eq_getElem h
         have e2:=List.getElem?_eq_getElem (l:=r) (i:=i) (by omega)
         rw [e1,e2]
         exact congrArg some (Classical.byContradiction fun hn=>hd ⟨i,_,_,e1,e2,hn⟩)
        ·rw [List.getElem?_eq_none h,List.getElem?_eq_none (by omega)]
   rw [decide_eq_true he]
   subst he
   clear hd hlr
   refine DW.walk ?_
   refine DW.loopA (fun i:Nat=>⟨[(0,.sl false 1 l.length LL),(1,.sl false 1 l.length LX),(11,.sl false 1 l.length LL),(12,.flat (.int .i64 ((l.length:Nat):Int))),(13,.flat (.int .i64 ((i:Nat):Int)))],[]⟩) (fun i=>i≤l.length) (fun i=>l.length - i) 0 ?_ (Nat.zero_le _)
   intro i hi
   rcases Nat.lt_or_ge i l.length with hlt|hge
   ·    obtain⟨u,hu⟩:∃ u,l[i]?=some u:=⟨_,List.getElem?_eq_getElem (by omega)⟩
        have q1:=hpl i u hu
        have q2:=hpr i u hu
        clear hpl hpr hu
        have huu:¬ u≠u:=fun h=>h rfl
        refine DW.walk ?_
        exact⟨i+1,by omega,by omega,Sub.auto⟩
   ·    obtain rfl:i=l.length:=by omega
        clear hpl hpr
        refine DW.walk ?_
        exact⟨.inr rfl,ResOk.one [] rfl rfl trivial (Vw.pers rfl)⟩
 ·rw [decide_eq_false (fun e=>hlr (by rw [e]))]
  clear hpl hpr
  refine DW.walk ?_
  exact⟨.inr rfl,ResOk.one [] rfl rfl trivial (Vw.pers rfl)⟩
theorem aby (l r:List Bool) (hl:l.length≤1000000000) (hr:r.length≤1000000000):DFun Try.prog 65 [.sl false 1 l.length (l.map fun x=>D.flat (.bool x)),.sl false 1 r.length (r.map fun x=>D.flat (.bool x))] (.flat (.bool (decide (l=r)))):=by
 have hpl:∀ (i:Nat) (x:Bool),l[i]?=some x→partD false 1 (i*1) (l.map fun x=>D.flat (.bool x))=some (.flat (.bool x)):=fun i x h=>dy_ h
 have hpr:∀ (i:Nat) (x:Bool),r[i]?=some x→partD false 1 (i*1) (r.map fun x=>D.flat (.bool x))=some (.flat (.bool x)):=fun i x h=>dy_ h
 have hp1:=ai_ l
 have hp2:=ai_ r
 generalize (l.map fun x=>D.flat (.bool x))=LL at*
 generalize (r.map fun x=>D.flat (.bool x))=LX at*
 refine DFun.enterA Try.func65 Try.ntmps65 ?_
 by_cases hlr:l.length=r.length
 ·rw [←  hlr] at hr ⊢
  by_cases hd:∃ i:Nat,∃ x y,l[i]?=some x∧r[i]?=some y∧x≠y
  ·obtain⟨j,⟨x,y,h1,h2,hne⟩,h4⟩:=bf_ hd
   rw [decide_eq_false (fun e=>by rw [e,h2] at h1;exact hne (Option.some.inj h1).symm)]
   have hjl:=(List.getElem?_eq_some_iff.1 h1).1
   clear hd
   refine DW.walk ?_
   refine DW.loopA (fun i:Nat=>⟨[(0,.sl false 1 l.length LL),(1,.sl false 1 l.length LX),(11,.sl false 1 l.length LL),(12,.flat (.int .i64 ((l.length:Nat):Int))),(13,.flat (.int .i64 ((i:Nat):Int)))],[]⟩) (fun i=>i≤j) (fun i=>j - i) 0 ?_ (Nat.zero_le _)
   intro i hi
   rcases Nat.lt_or_ge i j with hlt|hge
   ·    obtain⟨u,hu⟩:∃ u,l[i]?=some u:=⟨_,List.getElem?_eq_getElem (by omega)⟩
        obtain⟨v,hv⟩:∃ v,r[i]?=some v:=⟨_,List.getElem?_eq_getElem (by omega)⟩
        have huv:u=v:=Classical.byContradiction fun h=>h4 i hlt ⟨u,v,hu,hv,h⟩
        have q1:=hpl i u hu
        have q2:=hpr i v hv
        subst huv
        clear hpl hpr h1 h2 h4 hne hu hv
        cases u <;> (refine DW.walk ?_;exact⟨i+1,by omega,by omega,Sub.auto⟩)
   ·    obtain rfl:i=j:=by omega
        have q1:=hpl i x h1
        have q2:=hpr i y h2
        clear hpl hpr h1 h2 h4
        cases x <;> cases y <;> first|exact absurd rfl hne|(clear hne;refine DW.walk ?_;exact⟨.inr rfl,ResOk.one [] rfl rfl trivial (Vw.pers rfl)⟩)
  ·have   he:l=r:=List.ext_getElem? fun i=>by
        rcases Nat.lt_or_ge i l.length with h|h
        ·have e1:=List.getElem?_eq_getElem h
         have e2:=List.getElem?_eq_getElem (l:=r) (i:=i) (by omega)
         rw [e1,e2]
         exact congrArg some (Classical.byContradiction fun hn=>hd ⟨i,_,_,e1,e2,hn⟩)
        ·rw [List.getElem?_eq_none h,List.getElem?_eq_none (by omega)]
   rw [decide_eq_true he]
   subst he
   clear hd hlr
   refine DW.walk ?_
   refine DW.loopA (fun i:Nat=>⟨[(0,.sl false 1 l.length LL),(1,.sl false 1 l.length LX),(11,.sl false 1 l.length LL),(12,.flat (.int .i64 ((l.length:Nat):Int))),(13,.flat (.int .i64 ((i:Nat):Int)))],[]⟩) (fun i=>i≤l.length) (fun i=>l.length - i) 0 ?_ (Nat.zero_le _)
   intro i hi
   rcases Nat.lt_or_ge i l.length with hlt|hge
   ·    obtain⟨u,hu⟩:∃ u,l[i]?=some u:=⟨_,List.getElem?_eq_getElem (by omega)⟩
        have q1:=hpl i u hu
        have q2:=hpr i u hu
        clear hpl hpr hu
        cases u <;> (refine DW.walk ?_;exact⟨i+1,by omega,by omega,Sub.auto⟩)
   ·    obtain rfl:i=l.length:=by omega
        clear hpl hpr
        refine DW.walk ?_
        exact⟨.inr rfl,ResOk.one [] rfl rfl trivial (Vw.pers rfl)⟩
 ·rw [decide_eq_false (fun e=>hlr (by rw [e]))]
  clear hpl hpr
  refine DW.walk ?_
  exact⟨.inr rfl,ResOk.one [] rfl rfl trivial (Vw.pers rfl)⟩
end Go.Proofs.Ytichhfbkhnimmaa
