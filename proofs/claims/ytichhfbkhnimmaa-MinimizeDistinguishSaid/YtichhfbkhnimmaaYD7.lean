/- Contracts over data: few, steps. No condition. -/
import Derived.Test.YtichhfbkhnimmaaYD3
import Derived.Test.YtichhfbkhnimmaaYME
import Derived.Test.YtichhfbkhnimmaaYD1
set_option linter.unusedSimpArgs false
set_option linter.unusedVariables false
set_option maxHeartbeats 4000000
set_option maxRecDepth 8000
namespace Go.Proofs.Ytichhfbkhnimmaa
open Go Go.RowKit Go.PP Go.Dm Go.Rt Go.Mn
def fewB (A:Au):Bool:=decide (A.final.length≤6∧A.ranks.length≤6∧A.to.length≤8∧ ∀ l∈A.to,l.length≤40)
theorem fewB_few {A:Au} (h:fewB A=true):Few A:=by
 obtain⟨h1,h2,h3,h4⟩:=of_decide_eq_true h
 exact⟨by omega,by omega,by omega,fun l hl=>by have:=h4 l hl;omega⟩
theorem few_d (A:Au):DFun Try.prog 11 [auD A] (.flat (.bool (fewB A))):=by
 unfold fewB
 obtain⟨rs,fs,tt⟩:=A
 simp only [auD_mk]
 have hpt:∀ (i:Nat) (r:List Int),tt[i]?=some r→partD false 1 (i*1) (rowsL tt)=some (.sl false 1 r.length (r.map fun x=>D.flat (.int .i64 x))):=fun i r h=>part_r h
 have hLT:=pers_r tt
 generalize (rs.map fun x=>D.flat (.int .i64 x))=LR at*
 generalize (fs.map fun x=>D.flat (.bool x))=LB at*
 generalize rowsL tt=LT at*
 refine DFun.enterA Try.func11 Try.ntmps11 ?_
 by_cases c1:6<fs.length
 ·rw [decide_eq_false (by omega)]
  clear hpt
  refine DW.walk ?_
  exact⟨.inr rfl,ResOk.one [] rfl rfl trivial (Vw.pers rfl)⟩
 ·by_cases c2:6<rs.length
  ·rw [decide_eq_false (by omega)]
   clear hpt
   refine DW.walk ?_
   exact⟨.inr rfl,ResOk.one [] rfl rfl trivial (Vw.pers rfl)⟩
  ·by_cases c3:8<tt.length
   ·    rw [decide_eq_false (by omega)]
        clear hpt
        refine DW.walk ?_
        exact⟨.inr rfl,ResOk.one [] rfl rfl trivial (Vw.pers rfl)⟩
   ·    by_cases c4:∃ j:Nat,∃ l,tt[j]?=some l∧40<l.length
        ·obtain⟨j,⟨l,h1,h2⟩,h3⟩:=least_of c4
         rw [decide_eq_false (fun h=>by have:=h.2.2.2 l (List.mem_of_getElem? h1);omega)]
         have hjl:=(List.getElem?_eq_some_iff.1 h1).1
         refine DW.walk ?_
         refine DW.loopA (fun i:Nat=>⟨[(1,.ref 1 0),(3,.flat (.int .i64 ((i:Nat):Int)))],[(1,some (.box [.sl false 1 rs.length LR,.sl false 1 fs.length LB,.sl false 1 tt.length LT]))]⟩) (fun i=>i≤j) (fun i=>j - i) 0 ?_ (Nat.zero_le _)
         intro i hi
         rcases Nat.lt_or_ge i j with hlt|hge
         ·obtain⟨r,hri⟩:∃ r,tt[i]?=some r:=⟨_,List.getElem?_eq_getElem (by omega)⟩
          have hp:=hpt i r hri
          have hr4:¬ 40<r.length:=fun h=>h3 i hlt ⟨r,hri,h⟩
          clear hpt h1 h2 h3 hri c4
          refine DW.walk ?_
          exact⟨i+1,by omega,by omega,Sub.auto⟩
         ·obtain rfl:i=j:=by omega
          have hp:=hpt i l h1
          clear hpt h1 h3 c4
          refine DW.walk ?_
          exact⟨.inr rfl,ResOk.one [] rfl rfl trivial (Vw.pers rfl)⟩
        ·have h4:∀ (i:Nat) r,tt[i]?=some r→r.length≤40:=fun i r h=>Classical.byContradiction fun hn=>c4 ⟨i,r,h,by omega⟩
         rw [decide_eq_true ⟨by omega,by omega,by omega,fun l hl=>by
          obtain⟨i,hi⟩:=List.getElem?_of_mem hl
          exact h4 i l hi⟩]
         clear c4
         refine DW.walk ?_
         refine DW.loopA (fun i:Nat=>⟨[(1,.ref 1 0),(3,.flat (.int .i64 ((i:Nat):Int)))],[(1,some (.box [.sl false 1 rs.length LR,.sl false 1 fs.length LB,.sl false 1 tt.length LT]))]⟩) (fun i=>i≤tt.length) (fun i=>tt.length - i) 0 ?_ (Nat.zero_le _)
         intro i hi
         rcases Nat.lt_or_ge i tt.length with hlt|hge
         ·obtain⟨r,hri⟩:∃ r,tt[i]?=some r:=⟨_,List.getElem?_eq_getElem (by omega)⟩
          have hp:=hpt i r hri
          have hr4:¬ 40<r.length:=by have:=h4 i r hri;omega
          clear hpt h4 hri
          refine DW.walk ?_
          exact⟨i+1,by omega,by omega,Sub.auto⟩
         ·obtain rfl:i=tt.length:=by omega
          clear hpt h4
          refine DW.walk ?_
          exact⟨.inr rfl,ResOk.one [] rfl rfl trivial (Vw.pers rfl)⟩
noncomputable def rightB (A:Au):Bool:=fewB A && decide (chk A=0)
theorem right_d (A:Au):DFun Try.prog 19 [auD A] (.flat (.bool (rightB A))):=by
 have hf:=few_d A
 have hc:=fun h:fewB A=true=>rcheck_d A (fewB_few h)
 unfold rightB
 generalize fewB A=b at*
 generalize chk A=e at*
 simp only [auD_eq] at*
 generalize (A.ranks.map fun x=>D.flat (.int .i64 x))=LR at*
 generalize (A.final.map fun x=>D.flat (.bool x))=LB at*
 generalize rowsL A.to=LT at*
 refine DFun.enterA Try.func19 Try.ntmps19 ?_
 cases b with
 |false=>
  clear hc
  rw [Bool.false_and]
  refine DW.walk ?_
  exact⟨.inr rfl,ResOk.one [] rfl rfl trivial (Vw.pers rfl)⟩
 |true=>
  have hc:=hc rfl
  rw [Bool.true_and]
  by_cases he:e=0
  ·have e1:D.flat (.bool (decide ((e:Int)=0)))=D.flat (.bool (decide (e=0))):=by rw [decide_eq_true he,decide_eq_true (by omega)]
   refine DW.walk ?_
   exact⟨.inr rfl,ResOk.one [] rfl rfl trivial (Vw.le (Vw.pers rfl) (Le.of_eq (e1)))⟩
  ·have e1:D.flat (.bool (decide ((e:Int)=0)))=D.flat (.bool (decide (e=0))):=by rw [decide_eq_false he,decide_eq_false (by omega)]
   refine DW.walk ?_
   exact⟨.inr rfl,ResOk.one [] rfl rfl trivial (Vw.le (Vw.pers rfl) (Le.of_eq (e1)))⟩
theorem at_d (A:Au) (hok:AuOk A) (s:Int) (l:List Int) (hf:Fits A s l):DFun Try.prog 72 [auD A,.flat (.int .i64 s),.sl false 1 l.length (l.map fun x=>D.flat (.int .i64 x))] (.flat (.int .i64 (atI A s l))):=by
 obtain⟨i,p,row,q,rfl,hi,hrow,hp,hpl,hq,hat,hq0,hq1,hl2⟩:=hf.at hok
 rw [hat]
 have hn:=hok.hi
 have hr:=hf.rng
 have hpd:=fun j (hj:j<l.length)=>place_bd hn hr hl2 hj
 have hpt:=part_r hrow
 have hpq:=part_i hq
 have hpx:∀ (i:Nat) (x:Int),l[i]?=some x→partD false 1 (i*1) (l.map fun x=>D.flat (.int .i64 x))=some (.flat (.int .i64 x)):=fun i x h=>part_i h
 have hrl:row.length≤1000000:=by
  have:=(few_of hok).l row (List.mem_of_getElem? hrow)
  exact this
 have htl:A.to.length≤1000000:=(few_of hok).t
 obtain⟨rs,fs,tt⟩:=A
 simp only [auD_mk] at*
 generalize (l.map fun x=>D.flat (.int .i64 x))=LL at*
 generalize (row.map fun x=>D.flat (.int .i64 x))=LX at*
 generalize (rs.map fun x=>D.flat (.int .i64 x))=LR at*
 generalize (fs.map fun x=>D.flat (.bool x))=LB at*
 generalize rowsL tt=LT at*
 clear hat hrow hq hf hok
 refine DFun.enterA Try.func72 Try.ntmps72 ?_
 refine DW.walk ?_
 refine DW.loopA (fun j:Nat=>⟨[(3,.ref 3 0),(1,.flat (.int .i64 ((i:Nat):Int))),(7,.flat (.int .i64 (placeOf fs.length (l.take j)))),(10,.sl false 1 l.length LL),(11,.flat (.int .i64 ((l.length:Nat):Int))),(12,.flat (.int .i64 ((j:Nat):Int)))],[(3,some (.box [.sl false 1 rs.length LR,.sl false 1 fs.length LB,.sl false 1 tt.length LT]))]⟩) (fun j=>j≤l.length) (fun j=>l.length - j) 0 ?_ (Nat.zero_le _)
 intro j hj
 rcases Nat.lt_or_ge j l.length with hlt|hge
 ·obtain⟨x,hx⟩:∃ x,l[j]?=some x:=⟨_,List.getElem?_eq_getElem hlt⟩
  have hpj:=hpx j x hx
  obtain⟨b1,b2,b3,b4⟩:=hpd j hlt
  have hx2:=hr x (List.mem_of_getElem? hx)
  have ht:=placeOf_take (n:=fs.length) hx
  generalize hP1:placeOf fs.length (l.take (j+1))=P1 at*
  generalize placeOf fs.length (l.take j)=P0 at*
  obtain⟨M,hM⟩:∃ M,M=P0*(fs.length:Int):=⟨_,rfl⟩
  rw [← hM] at b3 b4 ht
  have hm:IntKind.i64.wrap (P0*(fs.length:Int))=M:=by rw [← hM,IntKind.wrap_i64];omega
  have ha:IntKind.i64.wrap (M+x)=P1:=by rw [ht,IntKind.wrap_i64];omega
  clear hpx hpd hr hx hM b1 b2 b3 b4 hx2 ht
  refine DW.walk ?_
  exact⟨j+1,by omega,by omega,by rw [hP1];exact Sub.auto⟩
 ·obtain rfl:j=l.length:=by omega
  rw [List.take_length,hp]
  clear hpx hpd hr
  refine DW.walk ?_
  exact⟨.inr rfl,ResOk.one [] rfl rfl trivial (Vw.pers rfl)⟩
theorem rstep_d (A:Au) (hok:AuOk A) (s:Int) (l:List Int) (hf:Fits A s l):DFun Try.prog 58 [auD A,.flat (.int .i64 s),.sl false 1 l.length (l.map fun x=>D.flat (.int .i64 x))] (.tup [.flat (.int .i64 (atI A s l)),.flat (.int .i64 0)]):=by
 have hlen:=hf.len
 obtain⟨i,p,row,q,rfl,hi,hrow,hp,hpl,hq,hat,hq0,hq1,hl2⟩:=hf.at hok
 rw [hat]
 have hn:=hok.hi
 have hir:i<A.ranks.length:=by rw [← hok.len];exact hi
 have hrk:A.ranks[i]?=some (l.length:Int):=by
  rw [Int.toNat_natCast,List.getD_eq_getElem?_getD,List.getElem?_eq_getElem hir] at hlen
  rw [List.getElem?_eq_getElem hir,hlen];rfl
 have hr:=hf.rng
 have hpd:=fun j (hj:j<l.length)=>place_bd hn hr hl2 hj
 have hpr:=part_i hrk
 have hpt:=part_r hrow
 have hpq:=part_i hq
 have hpx:∀ (i:Nat) (x:Int),l[i]?=some x→partD false 1 (i*1) (l.map fun x=>D.flat (.int .i64 x))=some (.flat (.int .i64 x)):=fun i x h=>part_i h
 have hrl:row.length≤1000000:=(few_of hok).l row (List.mem_of_getElem? hrow)
 have htl:A.to.length≤1000000:=(few_of hok).t
 obtain⟨rs,fs,tt⟩:=A
 simp only [auD_mk] at*
 generalize (l.map fun x=>D.flat (.int .i64 x))=LL at*
 generalize (row.map fun x=>D.flat (.int .i64 x))=LX at*
 generalize (rs.map fun x=>D.flat (.int .i64 x))=LR at*
 generalize (fs.map fun x=>D.flat (.bool x))=LB at*
 generalize rowsL tt=LT at*
 clear hat hrow hq hf hok hrk hlen
 refine DFun.enterA Try.func58 Try.ntmps58 ?_
 refine DW.walk ?_
 refine DW.loopA (fun j:Nat=>⟨[(3,.ref 3 0),(1,.flat (.int .i64 ((i:Nat):Int))),(2,.sl false 1 l.length LL),(6,.flat (.int .i64 0)),(7,.flat (.int .i64 0)),(8,.flat (.int .i64 (placeOf fs.length (l.take j)))),(9,.flat (.int .i64 ((j:Nat):Int)))],[(3,some (.box [.sl false 1 rs.length LR,.sl false 1 fs.length LB,.sl false 1 tt.length LT]))]⟩) (fun j=>j≤l.length) (fun j=>l.length - j) 0 ?_ (Nat.zero_le _)
 intro j hj
 rcases Nat.lt_or_ge j l.length with hlt|hge
 ·obtain⟨x,hx⟩:∃ x,l[j]?=some x:=⟨_,List.getElem?_eq_getElem hlt⟩
  have hpj:=hpx j x hx
  obtain⟨b1,b2,b3,b4⟩:=hpd j hlt
  have hx2:=hr x (List.mem_of_getElem? hx)
  have hx3:¬ x<0:=by omega
  have hx4:¬ (fs.length:Int)≤x:=by omega
  have ht:=placeOf_take (n:=fs.length) hx
  generalize hP1:placeOf fs.length (l.take (j+1))=P1 at*
  generalize placeOf fs.length (l.take j)=P0 at*
  obtain⟨M,hM⟩:∃ M,M=P0*(fs.length:Int):=⟨_,rfl⟩
  rw [← hM] at b3 b4 ht
  have hm:IntKind.i64.wrap (P0*(fs.length:Int))=M:=by rw [← hM,IntKind.wrap_i64];omega
  have ha:IntKind.i64.wrap (M+x)=P1:=by rw [ht,IntKind.wrap_i64];omega
  clear hpx hpd hr hx hM b1 b2 b3 b4 hx2 ht
  refine DW.walk ?_
  exact⟨j+1,by omega,by omega,by rw [hP1];exact Sub.auto⟩
 ·obtain rfl:j=l.length:=by omega
  rw [List.take_length,hp]
  clear hpx hpd hr
  refine DW.walk ?_
  exact⟨.inr rfl,ResOk.two [] rfl rfl rfl trivial (Vw.pers rfl) (Vw.pers rfl)⟩
theorem from_d (A:Au):DFun Try.prog 14 [auD A] (auD A):=by
 obtain⟨rs,fs,tt⟩:=A
 simp only [auD_mk]
 generalize (rs.map fun x=>D.flat (.int .i64 x))=LR at*
 generalize (fs.map fun x=>D.flat (.bool x))=LB at*
 generalize rowsL tt=LT at*
 refine DFun.enterA Try.func14 Try.ntmps14 ?_
 refine DW.walk ?_
 exact⟨.inr rfl,ResOk.cellA [] rfl rfl rfl TyI.ag TyI.sz trivial (.cons (Vw.pers rfl) (.cons (Vw.pers rfl) (.cons (Vw.pers rfl) .nil))) (Le.refl _)⟩
def spD (s:Sp):D:= .agg [.flat (.int .i64 s.sym),.flat (.int .i64 s.at_),.flat (.int .i64 s.other)]
theorem spD_mk (sy w o:Int):spD ⟨sy,w,o⟩= .agg [.flat (.int .i64 sy),.flat (.int .i64 w),.flat (.int .i64 o)]:=rfl
theorem go_d (A:Au) (hok:AuOk A) (s:Sp) (hs:SpOk A s) (p:Int) (hp:InA A p):DFun Try.prog 23 [auD A,spD s,.flat (.int .i64 p)] (.flat (.int .i64 (nextI A s p))):=by
 have hf:=step_fits hs hp
 have hst:=rstep_d A hok s.sym (s.args p) hf
 obtain⟨i,h1,h2,h3⟩:=hs
 unfold nextI
 generalize atI A s.sym (s.args p)=q at*
 obtain⟨sy,w,o⟩:=s
 simp only at h1 h3
 unfold Sp.args at hst
 simp only at hst
 rw [spD_mk]
 obtain⟨rs,fs,tt⟩:=A
 simp only [auD_mk] at*
 generalize (rs.map fun x=>D.flat (.int .i64 x))=LR at*
 generalize (fs.map fun x=>D.flat (.bool x))=LB at*
 generalize rowsL tt=LT at*
 clear hf h2
 rcases h3 with⟨h3,h4,h5⟩| ⟨h3,h4,h5,h6,h7⟩
 ·rw [if_pos (by omega)] at hst
  have hst:DFun Try.prog 58 [.agg [.sl false 1 rs.length LR,.sl false 1 fs.length LB,.sl false 1 tt.length LT],.flat (.int .i64 sy),.sl false 1 1 [.flat (.int .i64 p)]] (.tup [.flat (.int .i64 q),.flat (.int .i64 0)]):=hst
  subst h5
  clear h3 h1
  refine DFun.enterA Try.func23 Try.ntmps23 ?_
  refine DW.walk ?_
  exact⟨.inr rfl,ResOk.one [] rfl rfl trivial (Vw.pers rfl)⟩
 ·rw [if_neg (by omega)] at hst
  clear h3 h1 h6 h7
  rcases h4 with rfl|rfl
  ·rw [if_pos rfl] at hst
   have hst:DFun Try.prog 58 [.agg [.sl false 1 rs.length LR,.sl false 1 fs.length LB,.sl false 1 tt.length LT],.flat (.int .i64 sy),.sl false 1 2 [.flat (.int .i64 p),.flat (.int .i64 o)]] (.tup [.flat (.int .i64 q),.flat (.int .i64 0)]):=hst
   refine DFun.enterA Try.func23 Try.ntmps23 ?_
   refine DW.walk ?_
   exact⟨.inr rfl,ResOk.one [] rfl rfl trivial (Vw.pers rfl)⟩
  ·rw [if_neg (by decide)] at hst
   have hst:DFun Try.prog 58 [.agg [.sl false 1 rs.length LR,.sl false 1 fs.length LB,.sl false 1 tt.length LT],.flat (.int .i64 sy),.sl false 1 2 [.flat (.int .i64 o),.flat (.int .i64 p)]] (.tup [.flat (.int .i64 q),.flat (.int .i64 0)]):=hst
   refine DFun.enterA Try.func23 Try.ntmps23 ?_
   refine DW.walk ?_
   exact⟨.inr rfl,ResOk.one [] rfl rfl trivial (Vw.pers rfl)⟩
theorem next_at {A:Au} (hok:AuOk A) {s:Sp} (hs:SpOk A s) {p:Int} (hp:InA A p):∃ (i P:Nat) (row:List Int) (q:Int),s.sym=i∧i<A.to.length∧A.to[i]?=some row∧P<row.length∧row[P]?=some q∧nextI A s p=q∧placeOf A.final.length (s.args p)=P:=by
 obtain⟨i,P,row,q,h1,h2,h3,h4,h5,h6,h7,_,_,_⟩:=(step_fits hs hp).at hok
 exact⟨i,P,row,q,h1,h2,h3,h5,h6,h7,h4⟩
theorem next_d (A:Au) (hok:AuOk A) (s:Sp) (hs:SpOk A s) (p:Int) (hp:InA A p):DFun Try.prog 55 [spD s,auD A,.flat (.int .i64 p)] (.flat (.int .i64 (nextI A s p))):=by
 obtain⟨i,P,row,q,h1,h2,hrow,hPl,hq,hn,hpl⟩:=next_at hok hs hp
 rw [hn]
 obtain⟨i',h1',h2',h3⟩:=hs
 obtain⟨p0,p1⟩:=hp
 obtain⟨m,rfl⟩:=Int.eq_ofNat_of_zero_le p0
 have hpt:=part_r hrow
 have hpq:=part_i hq
 have hn:=hok.hi
 have hrl:row.length≤1000000:=(few_of hok).l row (List.mem_of_getElem? hrow)
 have htl:A.to.length≤1000000:=(few_of hok).t
 clear h1'
 obtain⟨sy,w,o⟩:=s
 simp only at h1 h3 hpl
 subst h1
 rw [spD_mk]
 unfold Sp.args at hpl
 simp only at hpl
 obtain⟨rs,fs,tt⟩:=A
 simp only [auD_mk] at*
 generalize (row.map fun x=>D.flat (.int .i64 x))=LX at*
 generalize (rs.map fun x=>D.flat (.int .i64 x))=LR at*
 generalize (fs.map fun x=>D.flat (.bool x))=LB at*
 generalize rowsL tt=LT at*
 clear hq hrow hok h2'
 have hmn:m<fs.length:=by omega
 rcases h3 with⟨h3,h4,h5⟩| ⟨h3,h4,h5,h6,h7⟩
 ·rw [if_pos (by omega)] at hpl
  have hpl:0*(fs.length:Int)+(m:Int)=(P:Int):=hpl
  have hmP:m=P:=by omega
  subst hmP
  subst h5
  clear h3 hpl h4
  refine DFun.enterA Try.func55 Try.ntmps55 ?_
  refine DW.walk ?_
  exact⟨.inr rfl,ResOk.one [] rfl rfl trivial (Vw.pers rfl)⟩
 ·rw [if_neg (by omega)] at hpl
  obtain⟨b,rfl⟩:=Int.eq_ofNat_of_zero_le h5
  have hbn:b<fs.length:=by omega
  have ho1:¬ (b:Int)= -1:=by omega
  clear h3 h6 h7 h5 p0 p1
  rcases h4 with rfl|rfl
  ·rw [if_pos rfl] at hpl
   have hpl:(0*(fs.length:Int)+(m:Int))*(fs.length:Int)+(b:Int)=(P:Int):=hpl
   rw [Int.zero_mul,Int.zero_add] at hpl
   obtain⟨M,hM⟩:∃ M:Nat,M=m*fs.length:=⟨_,rfl⟩
   have hM2:M≤262144:=by rw [hM];exact Nat.mul_le_mul (show m≤512 by omega) (show fs.length≤512 by omega)
   rw [← Int.natCast_mul,← hM] at hpl
   have hm:IntKind.i64.wrap ((m:Int)*(fs.length:Int))=(M:Int):=by rw [← Int.natCast_mul,← hM,IntKind.wrap_i64];omega
   have ha:IntKind.i64.wrap ((M:Int)+(b:Int))=(P:Int):=by rw [IntKind.wrap_i64];omega
   clear hM hpl hM2
   refine DFun.enterA Try.func55 Try.ntmps55 ?_
   refine DW.walk ?_
   exact⟨.inr rfl,ResOk.one [] rfl rfl trivial (Vw.pers rfl)⟩
  ·rw [if_neg (by decide)] at hpl
   have hpl:(0*(fs.length:Int)+(b:Int))*(fs.length:Int)+(m:Int)=(P:Int):=hpl
   rw [Int.zero_mul,Int.zero_add] at hpl
   obtain⟨M,hM⟩:∃ M:Nat,M=b*fs.length:=⟨_,rfl⟩
   have hM2:M≤262144:=by rw [hM];exact Nat.mul_le_mul (show b≤512 by omega) (show fs.length≤512 by omega)
   rw [← Int.natCast_mul,← hM] at hpl
   have hm:IntKind.i64.wrap ((b:Int)*(fs.length:Int))=(M:Int):=by rw [← Int.natCast_mul,← hM,IntKind.wrap_i64];omega
   have ha:IntKind.i64.wrap ((M:Int)+(m:Int))=(P:Int):=by rw [IntKind.wrap_i64];omega
   clear hM hpl hM2
   refine DFun.enterA Try.func55 Try.ntmps55 ?_
   refine DW.walk ?_
   exact⟨.inr rfl,ResOk.one [] rfl rfl trivial (Vw.pers rfl)⟩
end Go.Proofs.Ytichhfbkhnimmaa
namespace Go.Proofs.Ytichhfbkhnimmaa
open Go Go.RowKit Go.PP Go.Dm Go.Rt Go.Mn
theorem splice_set {cs:List D} {i:Nat} {x:D} (h:i<cs.length):spliceD cs i [x]=cs.set i x:=by
 rw [List.set_eq_take_append_cons_drop,if_pos h]
 simp [spliceD]
theorem isB_set {n i:Nat} (hi:i<n) (out:List Int):spliceD ((isB n out).map fun x=>D.flat (.bool x)) i [.flat (.bool true)]=(isB n (out++ [(i:Int)])).map fun x=>D.flat (.bool x):=by
 have hl:((isB n out).map fun x=>D.flat (.bool x)).length=n:=by simp [isB_len]
 rw [splice_set (by omega)]
 refine List.ext_getElem? fun j=>?_
 rw [List.getElem?_set,List.getElem?_map,List.getElem?_map]
 by_cases hij:i=j
 ·subst hij
  rw [if_pos rfl,if_pos (by omega),isB_get hi]
  simp
 ·rw [if_neg hij]
  by_cases hj:j<n
  ·rw [isB_get hj,isB_get hj]
   have:¬ (j:Int)=(i:Int):=by omega
   simp [this]
  ·rw [List.getElem?_eq_none (by rw [isB_len];omega),List.getElem?_eq_none (by rw [isB_len];omega)]
theorem lendLe {P:Program} {k:FuncId} {args args':List D} {pe we:Sg} {d d':D} (h:DLend P k args pe we d) (ha:LeL args' args) (hd:Le d d'):DLend P k args' pe we d':= .intro fun M0 g w vals hM hh hv hgl=>by
 refine (h.go M0 g w vals hM hh (LeL.rep (fun b hb=>?_) ha hv) hgl).mono fun e w' ⟨v,g',h1,h2,h3,h4,h5,h6⟩=>⟨v,g',h1,h2,h3,h4,h5,hd _ _ _ _ (fun b hb=>?_) h6⟩
 ·rcases hb with hb| ⟨id,hb⟩
  ·exact hM b hb
  ·exact (hh.new id b hb).1
 ·rcases hb with hb| ⟨id,hb⟩
  ·exact Nat.lt_of_lt_of_le (hM b hb) h2.size
  ·exact (h4.new id b hb).1
def fnB (A:Au) (out:List Int):Sg:=[(54526080000003,some (.box [.own 54526080000004 A.final.length])),(54526080000004,some (.row 4 1 A.final.length ((isB A.final.length out).map fun x=>D.flat (.bool x)))),(54526080000005,some (.box [.own 54526080000006 out.length])),(54526080000006,some (.row 3 1 out.length (out.map fun x=>D.flat (.int .i64 x))))]
def lsB (A:Au) (sym:Int) (n:Nat) (of:List Int):Sg:=[(53687091200003,some (.box [.flat (.int .i64 ((n:Nat):Int))])),(53687091200004,some (.box [.sl false 1 of.length (of.map fun x=>D.flat (.int .i64 x))])),(53687091200005,some (.box [.clo (.func 107) [] [.ptr (auC A) 0,.ptr [.flat (.int .i64 sym)] 0,.ref 54526080000003 0,.ref 54526080000005 0]])),
 (53687091200006,some (.box [.clo (.func 124) [] [.ref 53687091200003 0,.ref 53687091200005 0,.ref 53687091200004 0,.ref 53687091200006 0]]))]
theorem found1_d (A:Au) (hok:AuOk A) (sym:Int) (l:List Int) (hf:Fits A sym l) (out:List Int) (ho:out.length≤1000000):
  DLend Try.prog 107 [.sl false 1 l.length (l.map fun x=>D.flat (.int .i64 x)),.ptr (auC A) 0,.ptr [.flat (.int .i64 sym)] 0,.ref 54526080000003 0,.ref 54526080000005 0] (fnB A out) (fnB A (stepAdd A sym out l)) (.tup []):=by
 obtain⟨i,hi,hin⟩:∃ i:Nat,atI A sym l=(i:Int)∧i<A.final.length:=by
  have h:=atE_bd hok hf
  exact⟨(atI A sym l).toNat,by omega,by omega⟩
 have hat:=at_d A hok sym l hf
 rw [hi] at hat
 have hp:=part_b (isB_get hin out)
 have hlen:((isB A.final.length out).map fun x=>D.flat (.bool x)).length=A.final.length:=by simp [isB_len]
 have hpo:=pers_i out
 have hpl:=pers_i l
 unfold fnB
 rw [auD_eq] at hat
 rw [auC_eq]
 generalize (A.ranks.map fun x=>D.flat (.int .i64 x))=LR at*
 generalize (A.final.map fun x=>D.flat (.bool x))=LB at*
 generalize rowsL A.to=LT at*
 generalize (l.map fun x=>D.flat (.int .i64 x))=LL at*
 by_cases hm:(i:Int)∈out
 ·have hst:stepAdd A sym out l=out:=by unfold stepAdd;rw [hi,if_pos hm]
  rw [decide_eq_true hm] at hp
  rw [hst]
  have hpb:=pers_b (isB A.final.length out)
  generalize ((isB A.final.length out).map fun x=>D.flat (.bool x))=LI at*
  generalize (out.map fun x=>D.flat (.int .i64 x))=LO at*
  clear hf hok hi hm hst
  refine DLend.enterA Try.func107 Try.ntmps107 ?_
  refine DW.walk ?_
  exact⟨.inl rfl,ResL.unitA⟩
 ·have hst:stepAdd A sym out l=out++ [(i:Int)]:=by unfold stepAdd;rw [hi,if_neg hm]
  rw [decide_eq_false hm] at hp
  have hset:List.take (i*1) ((isB A.final.length out).map fun x=>D.flat (.bool x))++ [D.flat (.bool true)]++List.drop (i*1+1) ((isB A.final.length out).map fun x=>D.flat (.bool x))=(isB A.final.length (out++ [(i:Int)])).map fun x=>D.flat (.bool x):=by
   rw [Nat.mul_one]
   exact isB_set hin out
  have ho2:(out.map fun x=>D.flat (.int .i64 x))++ [.flat (.int .i64 (i:Int))]=((out++ [(i:Int)]).map fun x=>D.flat (.int .i64 x)):=by simp
  have hpo2:=pers_i (out++ [(i:Int)])
  have hol:(out++ [(i:Int)]).length=out.length+1:=by simp
  rw [hst]
  have hpb:=pers_b (isB A.final.length (out++ [(i:Int)]))
  have hpb0:=pers_b (isB A.final.length out)
  rw [hol]
  generalize ((isB A.final.length (out++ [(i:Int)])).map fun x=>D.flat (.bool x))=LI2 at*
  generalize ((isB A.final.length out).map fun x=>D.flat (.bool x))=LI at*
  generalize ((out++ [(i:Int)]).map fun x=>D.flat (.int .i64 x))=LO2 at*
  generalize (out.map fun x=>D.flat (.int .i64 x))=LO at*
  clear hf hok hi hm hst hol
  refine DLend.enterA Try.func107 Try.ntmps107 ?_
  refine DW.walk ?_
  exact⟨.inl rfl,ResL.unitA⟩
theorem oneL_ints (l:List Int):oneL (l.map fun x=>D.flat (.int .i64 x))=true:=oneL_map (fun _=>rfl) _
theorem cloneW_d (id:Nat) (hid:id=23∨id=20) (l:List Int) (hl:l.length≤1000000):
  DLend Try.prog 78 [.sl false 1 l.length (l.map fun x=>D.flat (.int .i64 x))] [(id,none)] [(id,some (.row 3 1 l.length (l.map fun x=>D.flat (.int .i64 x))))] (.own id l.length):=by
 have h5:=IdAt.of 5 id
 have ho:=oneL_ints l
 have hp:=pers_i l
 by_cases h0:l=[]
 ·subst  h0
  rcases hid with rfl|rfl
  all_goals
   refine DLend.enterA Try.func78 Try.ntmps78 ?_
   refine DW.adj ?_
   refine DW.flatten 0 rfl ?_
   intro a cap
   cases a with
   |    none=>
        refine DW.walk ?_
        exact⟨_,Sub.adoptA h5 2 3 1,.inr rfl,ResL.oneA⟩
   |    some a=>
        refine DW.walk ?_
        exact⟨_,Sub.refl _ _,.inr rfl,ResL.oneA⟩
 ·have:0<l.length:=List.length_pos_iff.2 h0
  rcases hid with rfl|rfl
  all_goals
   refine DLend.enterA Try.func78 Try.ntmps78 ?_
   refine DW.walk ?_
   exact⟨.inr rfl,ResL.oneA⟩
theorem cloneO_d (l:List Int) (hl:l.length≤1000000):
  DLend Try.prog 78 [.own 54526080000006 l.length] [(20,none),(54526080000006,some (.row 3 1 l.length (l.map fun x=>D.flat (.int .i64 x))))] [(20,some (.row 3 1 l.length (l.map fun x=>D.flat (.int .i64 x)))),(54526080000006,some (.row 3 1 l.length (l.map fun x=>D.flat (.int .i64 x))))] (.own 20 l.length):=by
 have h5:=IdAt.of 5 20
 have ho:=oneL_ints l
 have hp:=pers_i l
 by_cases h0:l=[]
 ·subst h0
  refine DLend.enterA Try.func78 Try.ntmps78 ?_
  refine DW.adj ?_
  refine DW.flattenO 0 rfl ?_
  intro a cap
  cases a with
  |none=>
   refine DW.walk ?_
   exact⟨_,Sub.adoptA h5 2 3 1,.inr rfl,ResL.oneA⟩
  |some a=>
   refine DW.walk ?_
   exact⟨_,Sub.refl _ _,.inr rfl,ResL.oneA⟩
 ·have:0<l.length:=List.length_pos_iff.2 h0
  refine DLend.enterA Try.func78 Try.ntmps78 ?_
  refine DW.walk ?_
  exact⟨.inr rfl,ResL.oneA⟩
theorem lists1_d (A:Au) (hok:AuOk A) (sym:Int) (hs0:0≤sym) (hs1:sym<A.ranks.length) (n:Nat) (hn:A.ranks.getD sym.toNat 0=(n:Int)) (hn2:n≤2) (of:List Int) (hof:∀ x∈of,0≤x∧x<(A.final.length:Int)) (hofl:of.length≤512):
  ∀ (m:Nat) (l:List Int),l.length+m=n→(∀ x∈l,0≤x∧x<(A.final.length:Int))→ ∀ (out:List Int),OutOk A out→
  DLend Try.prog 124 [.sl false 1 l.length (l.map fun x=>D.flat (.int .i64 x)),.ref 53687091200003 0,.ref 53687091200005 0,.ref 53687091200004 0,.ref 53687091200006 0] (fnB A out++lsB A sym n of) (fnB A (addAll A sym (enumL of m l) out)++lsB A sym n of) (.tup []):=by
 intro m
 induction m with
 |zero=>
  intro l hl hr out ho
  have hf:Fits A sym l:=⟨hs0,hs1,by omega,hr⟩
  have hlen:=ho.len
  have hA:=hok.hi
  have hc:=found1_d A hok sym l hf out (by omega)
  have hgl:out.length≤(stepAdd A sym out l).length:=by unfold stepAdd;split <;> simp
  have hst:addAll A sym (enumL of 0 l) out=stepAdd A sym out l:=rfl
  rw [hst]
  unfold fnB lsB at*
  refine DLend.enterA Try.func124 Try.ntmps124 ?_
  have q1:=pers_b (isB A.final.length out)
  have q2:=pers_i out
  have q3:=pers_b (isB A.final.length (stepAdd A sym out l))
  have q4:=pers_i (stepAdd A sym out l)
  have q5:=pers_i l
  have q6:=pers_i of
  refine DW.walk ?_
  exact⟨.inr rfl,ResL.unitA⟩
 |succ   m ih=>
  intro l hl hr out ho
  have hA:=hok.hi
  have hok2:∀ j,OutOk A (addAll A sym ((of.take j).flatMap fun s=>enumL of m (l++ [s])) out):=fun j=>by
   refine OutOk.all hok (fun x hx=>?_) ho
   obtain⟨y,hy,hx⟩:=List.mem_flatMap.1 hx
   refine enumL_fits hs0 hs1 hof m (l++ [y]) (by rw [hn];simp;omega) (fun z hz=>?_) x hx
   rcases List.mem_append.1 hz with hz|hz
   ·exact hr z hz
   ·simp at hz;subst hz;exact hof _ (List.mem_of_mem_take hy)
  have hmono:out.length≤(addAll A sym (enumL of (m+1) l) out).length:=by
   generalize enumL of (m+1) l=ls
   clear hok2 ho
   induction ls generalizing out with
   |nil=>exact Nat.le_refl _
   |cons x r ihr=>exact Nat.le_trans (by unfold stepAdd;split <;> simp) (ihr (stepAdd A sym out x))
  have hfin:addAll A sym (enumL of (m+1) l) out=addAll A sym ((of.take of.length).flatMap fun s=>enumL of m (l++ [s])) out:=by rw [List.take_length];rfl
  unfold fnB lsB
  refine DLend.enterA Try.func124 Try.ntmps124 ?_
  refine DW.walk ?_
  refine DW.loopA (fun j:Nat=>⟨[(0,.sl false 1 l.length (l.map fun x=>D.flat (.int .i64 x))),(1,.ref 53687091200003 0),(2,.ref 53687091200005 0),(3,.ref 53687091200004 0),(4,.ref 53687091200006 0),(15,.sl false 1 of.length (of.map fun x=>D.flat (.int .i64 x))),(16,.flat (.int .i64 ((of.length:Nat):Int))),(17,.flat (.int .i64 ((j:Nat):Int)))],
   fnB A (addAll A sym ((of.take j).flatMap fun s=>enumL of m (l++ [s])) out)++lsB A sym n of⟩) (fun j=>j≤of.length) (fun j=>of.length - j) 0 ?_ (by omega) (by unfold fnB lsB;exact Sub.auto)
  intro j hj
  rcases Nat.lt_or_ge j of.length with hlt|hge
  ·obtain⟨y,hy⟩:∃ y,of[j]?=some y:=⟨of[j],by simp⟩
   have hp:=part_i hy
   have hc:=cloneW_d 23 (.inl rfl) l (by omega)
   have hyr:=hof y (List.mem_of_getElem? hy)
   have  hi:=ih (l++ [y]) (by simp;omega) (fun z hz=>by
        rcases List.mem_append.1 hz with hz|hz
        ·exact hr z hz
        ·simp at hz;subst hz;exact hyr) _ (hok2 j)
   have  hnext:addAll A sym (enumL of m (l++ [y])) (addAll A sym ((of.take j).flatMap fun s=>enumL of m (l++ [s])) out)=addAll A sym ((of.take (j+1)).flatMap fun s=>enumL of m (l++ [s])) out:=by
        rw [← addAll_app,List.take_add_one,hy];simp
   have he:D.sl false 1 (l++ [y]).length ((l++ [y]).map fun x=>D.flat (.int .i64 x))= .sl false 1 (l.length+1) (l.map (fun x=>D.flat (.int .i64 x))++ [.flat (.int .i64 y)]):=by simp
   rw [hnext,he] at hi
   unfold fnB lsB at hi
   unfold fnB lsB
   refine DW.walk ?_
   refine DC.t (T.lendC (ar:=[_]) (ds':=[_]) [(23,some (.row 3 1 (l.length+1) (l.map (fun x=>D.flat (.int .i64 x))++ [.flat (.int .i64 y)])))] EntC.h hi rfl
        (by exact⟨Vg.give (fun id h=>by simp [keys] at h;subst h;rfl) (Vw.own (List.mem_cons_self ..) (VwL.pers (persL_append (persL_map (fun _=>rfl) _) rfl))),Vg.of (Vl.ref rfl),Vg.of (Vl.ref rfl),Vg.of (Vl.ref rfl),Vg.of (Vl.ref rfl),trivial⟩) rfl rfl rfl (dis_of rfl)
        (EsG.of ⟨⟨Vl.own rfl,trivial⟩,VlL.pers (persL_map (fun _=>rfl) _),⟨Vl.own rfl,trivial⟩,VlL.pers (persL_map (fun _=>rfl) _),VlL.pers rfl,VlL.pers rfl,⟨Vl.clo trivial ⟨Vl.pers rfl,Vl.pers rfl,Vl.ref rfl,Vl.ref rfl,trivial⟩,trivial⟩,⟨Vl.clo trivial ⟨Vl.ref rfl,Vl.ref rfl,Vl.ref rfl,Vl.ref rfl,trivial⟩,trivial⟩,trivial⟩)) ⟨rfl,rfl,trivial⟩ ⟨rfl,rfl,rfl,rfl,rfl,rfl,rfl,rfl,rfl,trivial⟩ ?_
   refine DC.walk ?_
   exact⟨j+1,by omega,by omega,Sub.auto⟩
  ·have:j=of.length:=by omega
   subst this
   rw [hfin]
   unfold fnB lsB
   refine DW.walk ?_
   exact⟨.inl rfl,ResL.unitA⟩
theorem addAll_mono (A:Au) (s:Int):∀ (ls:List (List Int)) (out:List Int),out.length≤(addAll A s ls out).length
 | [],out=>Nat.le_refl _
 |x::r,out=>Nat.le_trans (by unfold stepAdd;split <;> simp) (addAll_mono A s r (stepAdd A s out x))
theorem lists_d (A:Au) (hok:AuOk A) (sym:Int) (hs0:0≤sym) (hs1:sym<A.ranks.length) (n:Nat) (hn:A.ranks.getD sym.toNat 0=(n:Int)) (hn2:n≤2) (of:List Int) (hof:∀ x∈of,0≤x∧x<(A.final.length:Int)) (hofl:of.length≤512) (out:List Int) (ho:OutOk A out):
  DLend Try.prog 106 [.flat (.int .i64 ((n:Nat):Int)),.sl false 1 of.length (of.map fun x=>D.flat (.int .i64 x)),.clo (.func 107) [] [.ptr (auC A) 0,.ptr [.flat (.int .i64 sym)] 0,.ref 54526080000003 0,.ref 54526080000005 0]] (fnB A out) (fnB A (addAll A sym (enumL of n []) out)) (.tup []):=by
 have hi:=lendLe (args':=[.flat (.slice none 0 0),.ref 53687091200003 0,.ref 53687091200005 0,.ref 53687091200004 0,.ref 53687091200006 0]) (lists1_d A hok sym hs0 hs1 n hn hn2 of hof hofl n [] (by simp) (by simp) out ho) ⟨Le.nil _ _,Le.refl _,Le.refl _,Le.refl _,Le.refl _,trivial⟩ (Le.refl _)
 have q1:=pers_b (isB A.final.length out)
 have q2:=pers_i out
 have q3:=pers_b (isB A.final.length (addAll A sym (enumL of n []) out))
 have q4:=pers_i (addAll A sym (enumL of n []) out)
 have hmono:=addAll_mono A sym (enumL of n []) out
 have h3:=IdAt.of 3 53687091200003
 have h4:=IdAt.of 4 53687091200004
 have h5:=IdAt.of 5 53687091200005
 have h6:=IdAt.of 6 53687091200006
 have hpo:=pers_i of
 unfold fnB lsB at hi
 unfold fnB
 refine DLend.enterA Try.func106 Try.ntmps106 ?_
 refine DW.walk ?_
 exact⟨.inl rfl,ResL.unitA⟩
end Go.Proofs.Ytichhfbkhnimmaa
