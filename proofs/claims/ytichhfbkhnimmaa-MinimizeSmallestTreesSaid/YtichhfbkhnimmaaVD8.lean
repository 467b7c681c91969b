/- Contracts over data: few, steps. No condition. -/
import Derived.Test.YtichhfbkhnimmaaVD3
set_option linter.unusedSimpArgs false
set_option linter.unusedVariables false
set_option maxHeartbeats 4000000
set_option maxRecDepth 8000
namespace Go.Proofs.Ytichhfbkhnimmaa
open Go Go.RowKit Go.PP Go.Dm Go.Rt Go.Mn
def fewB (A:Au):Bool:=decide (A.f.length≤6∧A.r.length≤6∧A.to.length≤8∧ ∀ l∈A.to,l.length≤40)
theorem u4_ {A:Au} (h:fewB A=true):Few A:=by
 obtain⟨h1,h2,h3,h4⟩:=of_decide_eq_true h
 exact⟨by omega,by omega,by omega,fun l hl=>by have:=h4 l hl;omega⟩
theorem ab7 (A:Au):DFun Try.prog 11 [auD A] (.flat (.bool (fewB A))):=by
 unfold fewB
 obtain⟨rs,fs,tt⟩:=A
 simp only [e3_]
 have hpt:∀ (i:Nat) (r:List Int),tt[i]?=some r→partD false 1 (i*1) (aj_ tt)=some (.sl false 1 r.length (r.map fun x=>D.flat (.int .i64 x))):=fun i r h=>dc_ h
 have hLT:=ao_ tt
 generalize (rs.map fun x=>D.flat (.int .i64 x))=LR at*
 generalize (fs.map fun x=>D.flat (.bool x))=LB at*
 generalize aj_ tt=LT at*
 refine DFun.enterA Try.func11 Try.ntmps11 ?_
 by_cases c1:6<fs.length
 ·rw [decide_eq_false (by omega)]
  clear hpt
  refine DW.walk ?_
  exact⟨.inr rfl,ResOk.one [] rfl rfl trivial (Vw.pers rfl)⟩
 ·by_cases   c2:6<rs.length
  ·rw [decide_eq_false (by omega)]
   clear hpt
   refine DW.walk ?_
   exact⟨.inr rfl,ResOk.one [] rfl rfl trivial (Vw.pers rfl)⟩
  ·by_cases  c3:8<tt.length
   ·    rw [decide_eq_false (by omega)]
        clear hpt
        refine DW.walk ?_
        exact⟨.inr rfl,ResOk.one [] rfl rfl trivial (Vw.pers rfl)⟩
   ·    by_cases c4:∃ j:Nat,∃ l,tt[j]?=some l∧40<l.length
        ·obtain⟨j,⟨l,h1,h2⟩,h3⟩:=dz_ c4
         rw [decide_eq_false (fun h=>by have:=h.2.2.2 l (List.mem_of_getElem? h1);omega)]
         have hjl:=(List.getElem?_eq_some_iff.1 h1).1
         refine DW.walk ?_
         refine DW.loopA (fun i:Nat=>⟨[(1,.ref 1 0),(3,.flat (.int .i64 ((i:Nat):Int)))],[(1,some (.box [.sl false 1 rs.length LR,.sl false 1 fs.length LB,.sl false 1 tt.length LT]))]⟩) (fun i=>i≤j) (fun i=>j - i) 0 ?_ (Nat.zero_le _)
         intro i hi
         rcases Nat.lt_or_ge i j with hlt|hge
         ·  obtain⟨r,hri⟩:∃ r,tt[i]?=some r:=⟨_,List.getElem?_eq_getElem (by omega)⟩
            have hp:=hpt i r hri
            have hr4:¬ 40<r.length:=fun h=>h3 i hlt ⟨r,hri,h⟩
            clear hpt h1 h2 h3 hri c4
            refine DW.walk ?_
            exact⟨i+1,by omega,by omega,Sub.auto⟩
         ·  obtain rfl:i=j:=by omega
            have hp:=hpt i l h1
            clear hpt h1 h3 c4
            refine DW.walk ?_
            exact⟨.inr rfl,ResOk.one [] rfl rfl trivial (Vw.pers rfl)⟩
        ·have h4:∀ (i:Nat) r,tt[i]?=some r→r.length≤40:=fun i r h=>Classical.byContradiction fun hn=>c4 ⟨i,r,h,by omega⟩
         rw  [decide_eq_true ⟨by omega,by omega,by omega,fun l hl=>by
            obtain⟨i,hi⟩:=List.getElem?_of_mem hl
            exact h4 i l hi⟩]
         clear c4
         refine DW.walk ?_
         refine DW.loopA (fun i:Nat=>⟨[(1,.ref 1 0),(3,.flat (.int .i64 ((i:Nat):Int)))],[(1,some (.box [.sl false 1 rs.length LR,.sl false 1 fs.length LB,.sl false 1 tt.length LT]))]⟩) (fun i=>i≤tt.length) (fun i=>tt.length - i) 0 ?_ (Nat.zero_le _)
         intro i hi
         rcases Nat.lt_or_ge i tt.length with hlt|hge
         ·  obtain⟨r,hri⟩:∃ r,tt[i]?=some r:=⟨_,List.getElem?_eq_getElem (by omega)⟩
            have hp:=hpt i r hri
            have hr4:¬ 40<r.length:=by have:=h4 i r hri;omega
            clear hpt h4 hri
            refine DW.walk ?_
            exact⟨i+1,by omega,by omega,Sub.auto⟩
         ·  obtain rfl:i=tt.length:=by omega
            clear hpt h4
            refine DW.walk ?_
            exact⟨.inr rfl,ResOk.one [] rfl rfl trivial (Vw.pers rfl)⟩
noncomputable def i7_ (A:Au):Bool:=fewB A && decide (chk A=0)
theorem tp_ (A:Au):DFun Try.prog 19 [auD A] (.flat (.bool (i7_ A))):=by
 have hf:=ab7 A
 have hc:=fun h:fewB A=true=>va_ A (u4_ h)
 unfold i7_
 generalize fewB A=b at*
 generalize chk A=e at*
 simp only [a1_] at*
 generalize (A.r.map fun x=>D.flat (.int .i64 x))=LR at*
 generalize (A.f.map fun x=>D.flat (.bool x))=LB at*
 generalize aj_ A.to=LT at*
 refine DFun.enterA Try.func19 Try.ntmps19 ?_
 cases b with
 |false=>
  clear hc
  rw [Bool.false_and]
  refine DW.walk ?_
  exact⟨.inr rfl,ResOk.one [] rfl rfl trivial (Vw.pers rfl)⟩
 |true=>
  have hc:=hc rfl
  rw [Bool.true_and]
  by_cases he:e=0
  ·have e1:D.flat (.bool (decide ((e:Int)=0)))=D.flat (.bool (decide (e=0))):=by rw [decide_eq_true he,decide_eq_true (by omega)]
   refine DW.walk ?_
   exact⟨.inr rfl,ResOk.one [] rfl rfl trivial (Vw.le (Vw.pers rfl) (Le.of_eq (e1)))⟩
  ·have e1:D.flat (.bool (decide ((e:Int)=0)))=D.flat (.bool (decide (e=0))):=by rw [decide_eq_false he,decide_eq_false (by omega)]
   refine DW.walk ?_
   exact⟨.inr rfl,ResOk.one [] rfl rfl trivial (Vw.le (Vw.pers rfl) (Le.of_eq (e1)))⟩
theorem acz (A:Au) (hok:AuOk A) (s:Int) (l:List Int) (hf:Fits A s l):DFun Try.prog 72 [auD A,.flat (.int .i64 s),.sl false 1 l.length (l.map fun x=>D.flat (.int .i64 x))] (.flat (.int .i64 (atI A s l))):=by
 obtain⟨i,p,row,q,rfl,hi,hrow,hp,hpl,hq,hat,hq0,hq1,hl2⟩:=hf.at hok
 rw [hat]
 have hn:=hok.hi
 have hr:=hf.rng
 have hpd:=fun j (hj:j<l.length)=>we_ hn hr hl2 hj
 have hpt:=dc_ hrow
 have hpq:=an_ hq
 have hpx:∀ (i:Nat) (x:Int),l[i]?=some x→partD false 1 (i*1) (l.map fun x=>D.flat (.int .i64 x))=some (.flat (.int .i64 x)):=fun i x h=>an_ h
 have hrl:row.length≤1000000:=by
  have:=(bj_ hok).l row (List.mem_of_getElem? hrow)
  exact this
 have htl:A.to.length≤1000000:=(bj_ hok).t
 obtain⟨rs,fs,tt⟩:=A
 simp only [e3_] at*
 generalize (l.map fun x=>D.flat (.int .i64 x))=LL at*
 generalize (row.map fun x=>D.flat (.int .i64 x))=LX at*
 generalize (rs.map fun x=>D.flat (.int .i64 x))=LR at*
 generalize (fs.map fun x=>D.flat (.bool x))=LB at*
 generalize aj_ tt=LT at*
 clear hat hrow hq hf hok
 refine DFun.enterA Try.func72 Try.ntmps72 ?_
 refine DW.walk ?_
 refine DW.loopA (fun j:Nat=>⟨[(3,.ref 3 0),(1,.flat (.int .i64 ((i:Nat):Int))),(7,.flat (.int .i64 (ar_ fs.length (l.take j)))),(10,.sl false 1 l.length LL),(11,.flat (.int .i64 ((l.length:Nat):Int))),(12,.flat (.int .i64 ((j:Nat):Int)))],[(3,some (.box [.sl false 1 rs.length LR,.sl false 1 fs.length LB,.sl false 1 tt.length LT]))]⟩) (fun j=>j≤l.length) (fun j=>l.length - j) 0 ?_ (Nat.zero_le _)
 intro j hj
 rcases Nat.lt_or_ge j l.length with hlt|hge
 ·obtain⟨x,hx⟩:∃ x,l[j]?=some x:=⟨_,List.getElem?_eq_getElem hlt⟩
  have hpj:=hpx j x hx
  obtain⟨b1,b2,b3,b4⟩:=hpd j hlt
  have hx2:=hr x (List.mem_of_getElem? hx)
  have ht:=mr_ (n:=fs.length) hx
  generalize hP1:ar_ fs.length (l.take (j+1))=P1 at*
  generalize ar_ fs.length (l.take j)=P0 at*
  obtain⟨M,hM⟩:∃ M,M=P0*(fs.length:Int):=⟨_,rfl⟩
  rw [← hM] at b3 b4 ht
  have hm:IntKind.i64.wrap (P0*(fs.length:Int))=M:=by rw [← hM,IntKind.wrap_i64];omega
  have ha:IntKind.i64.wrap (M+x)=P1:=by rw [ht,IntKind.wrap_i64];omega
  clear hpx hpd hr hx hM b1 b2 b3 b4 hx2 ht
  refine DW.walk ?_
  exact⟨j+1,by omega,by omega,by rw [hP1];exact Sub.auto⟩
 ·obtain rfl:j=l.length:=by omega
  rw [List.take_length,hp]
  clear hpx hpd hr
  refine DW.walk ?_
  exact⟨.inr rfl,ResOk.one [] rfl rfl trivial (Vw.pers rfl)⟩
theorem aai (A:Au):DFun Try.prog 14 [auD A] (auD A):=by
 obtain⟨rs,fs,tt⟩:=A
 simp only [e3_]
 generalize (rs.map fun x=>D.flat (.int .i64 x))=LR at*
 generalize (fs.map fun x=>D.flat (.bool x))=LB at*
 generalize aj_ tt=LT at*
 refine DFun.enterA Try.func14 Try.ntmps14 ?_
 refine DW.walk ?_
 exact⟨.inr rfl,ResOk.cellA [] rfl rfl rfl TyI.ag TyI.sz trivial (.cons (Vw.pers rfl) (.cons (Vw.pers rfl) (.cons (Vw.pers rfl) .nil))) (Le.refl _)⟩
def spD (s:Sp):D:= .agg [.flat (.int .i64 s.sym),.flat (.int .i64 s.at_),.flat (.int .i64 s.other)]
theorem abh (sy w o:Int):spD ⟨sy,w,o⟩= .agg [.flat (.int .i64 sy),.flat (.int .i64 w),.flat (.int .i64 o)]:=rfl
theorem yq_ {A:Au} (hok:AuOk A) {s:Sp} (hs:SpOk A s) {p:Int} (hp:InA A p):∃ (i P:Nat) (row:List Int) (q:Int),s.sym=i∧i<A.to.length∧A.to[i]?=some row∧P<row.length∧row[P]?=some q∧au_ A s p=q∧ar_ A.f.length (s.args p)=P:=by
 obtain⟨i,P,row,q,h1,h2,h3,h4,h5,h6,h7,_,_,_⟩:=(ma_ hs hp).at hok
 exact⟨i,P,row,q,h1,h2,h3,h5,h6,h7,h4⟩
theorem wz_ (A:Au) (hok:AuOk A) (s:Sp) (hs:SpOk A s) (p:Int) (hp:InA A p):DFun Try.prog 55 [spD s,auD A,.flat (.int .i64 p)] (.flat (.int .i64 (au_ A s p))):=by
 obtain⟨i,P,row,q,h1,h2,hrow,hPl,hq,hn,hpl⟩:=yq_ hok hs hp
 rw [hn]
 obtain⟨i',h1',h2',h3⟩:=hs
 obtain⟨p0,p1⟩:=hp
 obtain⟨m,rfl⟩:=Int.eq_ofNat_of_zero_le p0
 have hpt:=dc_ hrow
 have hpq:=an_ hq
 have hn:=hok.hi
 have hrl:row.length≤1000000:=(bj_ hok).l row (List.mem_of_getElem? hrow)
 have htl:A.to.length≤1000000:=(bj_ hok).t
 clear h1'
 obtain⟨sy,w,o⟩:=s
 simp only at h1 h3 hpl
 subst h1
 rw [abh]
 unfold Sp.args at hpl
 simp only at hpl
 obtain⟨rs,fs,tt⟩:=A
 simp only [e3_] at*
 generalize (row.map fun x=>D.flat (.int .i64 x))=LX at*
 generalize (rs.map fun x=>D.flat (.int .i64 x))=LR at*
 generalize (fs.map fun x=>D.flat (.bool x))=LB at*
 generalize aj_ tt=LT at*
 clear hq hrow hok h2'
 have hmn:m<fs.length:=by omega
 rcases h3 with⟨h3,h4,h5⟩| ⟨h3,h4,h5,h6,h7⟩
 ·rw [if_pos (by omega)] at hpl
  have hpl:0*(fs.length:Int)+(m:Int)=(P:Int):=hpl
  have hmP:m=P:=by omega
  subst hmP
  subst h5
  clear h3 hpl h4
  refine DFun.enterA Try.func55 Try.ntmps55 ?_
  refine DW.walk ?_
  exact⟨.inr rfl,ResOk.one [] rfl rfl trivial (Vw.pers rfl)⟩
 ·rw [if_neg (by omega)] at hpl
  obtain⟨b,rfl⟩:=Int.eq_ofNat_of_zero_le h5
  have hbn:b<fs.length:=by omega
  have ho1:¬ (b:Int)= -1:=by omega
  clear h3 h6 h7 h5 p0 p1
  rcases h4 with rfl|rfl
  ·rw [if_pos rfl] at hpl
   have hpl:(0*(fs.length:Int)+(m:Int))*(fs.length:Int)+(b:Int)=(P:Int):=hpl
   rw [Int.zero_mul,Int.zero_add] at hpl
   obtain⟨M,hM⟩:∃ M:Nat,M=m*fs.length:=⟨_,rfl⟩
   have hM2:M≤262144:=by rw [hM];exact Nat.mul_le_mul (show m≤512 by omega) (show fs.length≤512 by omega)
   rw [← Int.natCast_mul,← hM] at hpl
   have hm:IntKind.i64.wrap ((m:Int)*(fs.length:Int))=(M:Int):=by rw [← Int.natCast_mul,← hM,IntKind.wrap_i64];omega
   have ha:IntKind.i64.wrap ((M:Int)+(b:Int))=(P:Int):=by rw [IntKind.wrap_i64];omega
   clear hM hpl hM2
   refine DFun.enterA Try.func55 Try.ntmps55 ?_
   refine DW.walk ?_
   exact⟨.inr rfl,ResOk.one [] rfl rfl trivial (Vw.pers rfl)⟩
  ·rw [if_neg (by decide)] at hpl
   have hpl:(0*(fs.length:Int)+(b:Int))*(fs.length:Int)+(m:Int)=(P:Int):=hpl
   rw [Int.zero_mul,Int.zero_add] at hpl
   obtain⟨M,hM⟩:∃ M:Nat,M=b*fs.length:=⟨_,rfl⟩
   have hM2:M≤262144:=by rw [hM];exact Nat.mul_le_mul (show b≤512 by omega) (show fs.length≤512 by omega)
   rw [← Int.natCast_mul,← hM] at hpl
   have hm:IntKind.i64.wrap ((b:Int)*(fs.length:Int))=(M:Int):=by rw [← Int.natCast_mul,← hM,IntKind.wrap_i64];omega
   have ha:IntKind.i64.wrap ((M:Int)+(m:Int))=(P:Int):=by rw [IntKind.wrap_i64];omega
   clear hM hpl hM2
   refine DFun.enterA Try.func55 Try.ntmps55 ?_
   refine DW.walk ?_
   exact⟨.inr rfl,ResOk.one [] rfl rfl trivial (Vw.pers rfl)⟩
end Go.Proofs.Ytichhfbkhnimmaa
namespace Go.Proofs.Ytichhfbkhnimmaa
open Go Go.RowKit Go.PP Go.Dm Go.Rt Go.Mn
theorem bi_ {cs:List D} {i:Nat} {x:D} (h:i<cs.length):spliceD cs i [x]=cs.set i x:=by
 rw [List.set_eq_take_append_cons_drop,if_pos h]
 simp [spliceD]
theorem t0_ {n i:Nat} (hi:i<n) (out:List Int):spliceD ((isB n out).map fun x=>D.flat (.bool x)) i [.flat (.bool true)]=(isB n (out++ [(i:Int)])).map fun x=>D.flat (.bool x):=by
 have hl:((isB n out).map fun x=>D.flat (.bool x)).length=n:=by simp [d2_]
 rw [bi_ (by omega)]
 refine List.ext_getElem? fun j=>?_
 rw [List.getElem?_set,List.getElem?_map,List.getElem?_map]
 by_cases hij:i=j
 ·subst hij
  rw [if_pos rfl,if_pos (by omega),e9_ hi]
  simp
 ·rw [if_neg hij]
  by_cases hj:j<n
  ·rw [e9_ hj,e9_ hj]
   have:¬ (j:Int)=(i:Int):=by omega
   simp [this]
  ·rw [List.getElem?_eq_none (by rw [d2_];omega),List.getElem?_eq_none (by rw [d2_];omega)]
theorem h2_ {P:Program} {k:FuncId} {args args':List D} {pe we:Sg} {d d':D} (h:DLend P k args pe we d) (ha:LeL args' args) (hd:Le d d'):DLend P k args' pe we d':= .intro fun M0 g w vals hM hh hv hgl=>by
 refine (h.go M0 g w vals hM hh (LeL.rep (fun b hb=>?_) ha hv) hgl).mono fun e w' ⟨v,g',h1,h2,h3,h4,h5,h6⟩=>⟨v,g',h1,h2,h3,h4,h5,hd _ _ _ _ (fun b hb=>?_) h6⟩
 ·rcases hb with hb| ⟨id,hb⟩
  ·exact hM b hb
  ·exact (hh.new id b hb).1
 ·rcases hb with hb| ⟨id,hb⟩
  ·exact Nat.lt_of_lt_of_le (hM b hb) h2.size
  ·exact (h4.new id b hb).1
def fnB (A:Au) (out:List Int):Sg:=[(54526080000003,some (.box [.own 54526080000004 A.f.length])),(54526080000004,some (.row 4 1 A.f.length ((isB A.f.length out).map fun x=>D.flat (.bool x)))),(54526080000005,some (.box [.own 54526080000006 out.length])),(54526080000006,some (.row 3 1 out.length (out.map fun x=>D.flat (.int .i64 x))))]
def lsB (A:Au) (sym:Int) (n:Nat) (of:List Int):Sg:=[(53687091200003,some (.box [.flat (.int .i64 ((n:Nat):Int))])),(53687091200004,some (.box [.sl false 1 of.length (of.map fun x=>D.flat (.int .i64 x))])),(53687091200005,some (.box [.clo (.func 107) [] [.ptr (auC A) 0,.ptr [.flat (.int .i64 sym)] 0,.ref 54526080000003 0,.ref 54526080000005 0]])),
 (53687091200006,some (.box [.clo (.func 124) [] [.ref 53687091200003 0,.ref 53687091200005 0,.ref 53687091200004 0,.ref 53687091200006 0]]))]
theorem v8_ (A:Au) (hok:AuOk A) (sym:Int) (l:List Int) (hf:Fits A sym l) (out:List Int) (ho:out.length≤1000000):
  DLend Try.prog 107 [.sl false 1 l.length (l.map fun x=>D.flat (.int .i64 x)),.ptr (auC A) 0,.ptr [.flat (.int .i64 sym)] 0,.ref 54526080000003 0,.ref 54526080000005 0] (fnB A out) (fnB A (a5_ A sym out l)) (.tup []):=by
 obtain⟨i,hi,hin⟩:∃ i:Nat,atI A sym l=(i:Int)∧i<A.f.length:=by
  have h:=r3_ hok hf
  exact⟨(atI A sym l).toNat,by omega,by omega⟩
 have hat:=acz A hok sym l hf
 rw [hi] at hat
 have hp:=ef_ (e9_ hin out)
 have hlen:((isB A.f.length out).map fun x=>D.flat (.bool x)).length=A.f.length:=by simp [d2_]
 have hpo:=ab_ out
 have hpl:=ab_ l
 unfold fnB
 rw [a1_] at hat
 rw [d1_]
 generalize (A.r.map fun x=>D.flat (.int .i64 x))=LR at*
 generalize (A.f.map fun x=>D.flat (.bool x))=LB at*
 generalize aj_ A.to=LT at*
 generalize (l.map fun x=>D.flat (.int .i64 x))=LL at*
 by_cases hm:(i:Int)∈out
 ·have hst:a5_ A sym out l=out:=by unfold a5_;rw [hi,if_pos hm]
  rw [decide_eq_true hm] at hp
  rw [hst]
  have hpb:=al_ (isB A.f.length out)
  generalize ((isB A.f.length out).map fun x=>D.flat (.bool x))=LI at*
  generalize (out.map fun x=>D.flat (.int .i64 x))=LO at*
  clear hf hok hi hm hst
  refine DLend.enterA Try.func107 Try.ntmps107 ?_
  refine DW.walk ?_
  exact⟨.inl rfl,ResL.unitA⟩
 ·have hst:a5_ A sym out l=out++ [(i:Int)]:=by unfold a5_;rw [hi,if_neg hm]
  rw [decide_eq_false hm] at hp
  have hset:List.take (i*1) ((isB A.f.length out).map fun x=>D.flat (.bool x))++ [D.flat (.bool true)]++List.drop (i*1+1) ((isB A.f.length out).map fun x=>D.flat (.bool x))=(isB A.f.length (out++ [(i:Int)])).map fun x=>D.flat (.bool x):=by
   rw [Nat.mul_one]
   exact t0_ hin out
  have ho2:(out.map fun x=>D.flat (.int .i64 x))++ [.flat (.int .i64 (i:Int))]=((out++ [(i:Int)]).map fun x=>D.flat (.int .i64 x)):=by simp
  have hpo2:=ab_ (out++ [(i:Int)])
  have hol:(out++ [(i:Int)]).length=out.length+1:=by simp
  rw [hst]
  have hpb:=al_ (isB A.f.length (out++ [(i:Int)]))
  have hpb0:=al_ (isB A.f.length out)
  rw [hol]
  generalize ((isB A.f.length (out++ [(i:Int)])).map fun x=>D.flat (.bool x))=LI2 at*
  generalize ((isB A.f.length out).map fun x=>D.flat (.bool x))=LI at*
  generalize ((out++ [(i:Int)]).map fun x=>D.flat (.int .i64 x))=LO2 at*
  generalize (out.map fun x=>D.flat (.int .i64 x))=LO at*
  clear hf hok hi hm hst hol
  refine DLend.enterA Try.func107 Try.ntmps107 ?_
  refine DW.walk ?_
  exact⟨.inl rfl,ResL.unitA⟩
theorem c0_ (l:List Int):oneL (l.map fun x=>D.flat (.int .i64 x))=true:=gl_ (fun _=>rfl) _
theorem u1_ (id:Nat) (hid:id=23∨id=20) (l:List Int) (hl:l.length≤1000000):
  DLend Try.prog 78 [.sl false 1 l.length (l.map fun x=>D.flat (.int .i64 x))] [(id,none)] [(id,some (.row 3 1 l.length (l.map fun x=>D.flat (.int .i64 x))))] (.own id l.length):=by
 have h5:=IdAt.of 5 id
 have ho:=c0_ l
 have hp:=ab_ l
 by_cases h0:l=[]
 ·subst  h0
  rcases hid with rfl|rfl
  all_goals
   refine DLend.enterA Try.func78 Try.ntmps78 ?_
   refine DW.adj ?_
   refine DW.flatten 0 rfl ?_
   intro a cap
   cases a with
   |    none=>
        refine DW.walk ?_
        exact⟨_,Sub.adoptA h5 2 3 1,.inr rfl,ResL.oneA⟩
   |    some a=>
        refine DW.walk ?_
        exact⟨_,Sub.refl _ _,.inr rfl,ResL.oneA⟩
 ·have:0<l.length:=List.length_pos_iff.2 h0
  rcases hid with rfl|rfl
  all_goals
   refine DLend.enterA Try.func78 Try.ntmps78 ?_
   refine DW.walk ?_
   exact⟨.inr rfl,ResL.oneA⟩
theorem wa_ (l:List Int) (hl:l.length≤1000000):
  DLend Try.prog 78 [.own 54526080000006 l.length] [(20,none),(54526080000006,some (.row 3 1 l.length (l.map fun x=>D.flat (.int .i64 x))))] [(20,some (.row 3 1 l.length (l.map fun x=>D.flat (.int .i64 x)))),(54526080000006,some (.row 3 1 l.length (l.map fun x=>D.flat (.int .i64 x))))] (.own 20 l.length):=by
 have h5:=IdAt.of 5 20
 have ho:=c0_ l
 have hp:=ab_ l
 by_cases h0:l=[]
 ·subst h0
  refine DLend.enterA Try.func78 Try.ntmps78 ?_
  refine DW.adj ?_
  refine DW.flattenO 0 rfl ?_
  intro a cap
  cases a with
  |none=>
   refine DW.walk ?_
   exact⟨_,Sub.adoptA h5 2 3 1,.inr rfl,ResL.oneA⟩
  |some a=>
   refine DW.walk ?_
   exact⟨_,Sub.refl _ _,.inr rfl,ResL.oneA⟩
 ·have:0<l.length:=List.length_pos_iff.2 h0
  refine DLend.enterA Try.func78 Try.ntmps78 ?_
  refine DW.walk ?_
  exact⟨.inr rfl,ResL.oneA⟩
theorem vp_ (A:Au) (hok:AuOk A) (sym:Int) (hs0:0≤sym) (hs1:sym<A.r.length) (n:Nat) (hn:A.r.getD sym.toNat 0=(n:Int)) (hn2:n≤2) (of:List Int) (hof:∀ x∈of,0≤x∧x<(A.f.length:Int)) (hofl:of.length≤512):
  ∀ (m:Nat) (l:List Int),l.length+m=n→(∀ x∈l,0≤x∧x<(A.f.length:Int))→ ∀ (out:List Int),OutOk A out→
  DLend Try.prog 124 [.sl false 1 l.length (l.map fun x=>D.flat (.int .i64 x)),.ref 53687091200003 0,.ref 53687091200005 0,.ref 53687091200004 0,.ref 53687091200006 0] (fnB A out++lsB A sym n of) (fnB A (bw_ A sym (dd_ of m l) out)++lsB A sym n of) (.tup []):=by
 intro m
 induction m with
 |zero=>
  intro l hl hr out ho
  have hf:Fits A sym l:=⟨hs0,hs1,by omega,hr⟩
  have hlen:=ho.len
  have hA:=hok.hi
  have hc:=v8_ A hok sym l hf out (by omega)
  have hgl:out.length≤(a5_ A sym out l).length:=by unfold a5_;split <;> simp
  have hst:bw_ A sym (dd_ of 0 l) out=a5_ A sym out l:=rfl
  rw [hst]
  unfold fnB lsB at*
  refine DLend.enterA Try.func124 Try.ntmps124 ?_
  have q1:=al_ (isB A.f.length out)
  have q2:=ab_ out
  have q3:=al_ (isB A.f.length (a5_ A sym out l))
  have q4:=ab_ (a5_ A sym out l)
  have q5:=ab_ l
  have q6:=ab_ of
  refine DW.walk ?_
  exact⟨.inr rfl,ResL.unitA⟩
 |succ   m ih=>
  intro l hl hr out ho
  have hA:=hok.hi
  have hok2:∀ j,OutOk A (bw_ A sym ((of.take j).flatMap fun s=>dd_ of m (l++ [s])) out):=fun j=>by
   refine OutOk.all hok (fun x hx=>?_) ho
   obtain⟨y,hy,hx⟩:=List.mem_flatMap.1 hx
   refine ha_ hs0 hs1 hof m (l++ [y]) (by rw [hn];simp;omega) (fun z hz=>?_) x hx
   rcases List.mem_append.1 hz with hz|hz
   ·exact hr z hz
   ·simp at hz;subst hz;exact hof _ (List.mem_of_mem_take hy)
  have hmono:out.length≤(bw_ A sym (dd_ of (m+1) l) out).length:=by
   generalize dd_ of (m+1) l=ls
   clear hok2 ho
   induction ls generalizing out with
   |nil=>exact Nat.le_refl _
   |cons x r ihr=>exact Nat.le_trans (by unfold a5_;split <;> simp) (ihr (a5_ A sym out x))
  have hfin:bw_ A sym (dd_ of (m+1) l) out=bw_ A sym ((of.take of.length).flatMap fun s=>dd_ of m (l++ [s])) out:=by rw [List.take_length];rfl
  unfold fnB lsB
  refine DLend.enterA Try.func124 Try.ntmps124 ?_
  refine DW.walk ?_
  refine DW.loopA (fun j:Nat=>⟨[(0,.sl false 1 l.length (l.map fun x=>D.flat (.int .i64 x))),(1,.ref 53687091200003 0),(2,.ref 53687091200005 0),(3,.ref 53687091200004 0),(4,.ref 53687091200006 0),(15,.sl false 1 of.length (of.map fun x=>D.flat (.int .i64 x))),(16,.flat (.int .i64 ((of.length:Nat):Int))),(17,.flat (.int .i64 ((j:Nat):Int)))],
   fnB A (bw_ A sym ((of.take j).flatMap fun s=>dd_ of m (l++ [s])) out)++lsB A sym n of⟩) (fun j=>j≤of.length) (fun j=>of.length - j) 0 ?_ (by omega) (by unfold fnB lsB;exact Sub.auto)
  intro j hj
  rcases Nat.lt_or_ge j of.length with hlt|hge
  ·obtain⟨y,hy⟩:∃ y,of[j]?=some y:=⟨of[j],by simp⟩
   have hp:=an_ hy
   have hc:=u1_ 23 (.inl rfl) l (by omega)
   have hyr:=hof y (List.mem_of_getElem? hy)
   have  hi:=ih (l++ [y]) (by simp;omega) (fun z hz=>by
        rcases List.mem_append.1 hz with hz|hz
        ·exact hr z hz
        ·simp at hz;subst hz;exact hyr) _ (hok2 j)
   have  hnext:bw_ A sym (dd_ of m (l++ [y])) (bw_ A sym ((of.take j).flatMap fun s=>dd_ of m (l++ [s])) out)=bw_ A sym ((of.take (j+1)).flatMap fun s=>dd_ of m (l++ [s])) out:=by
        rw [← qr_,List.take_add_one,hy];simp
   have he:D.sl false 1 (l++ [y]).length ((l++ [y]).map fun x=>D.flat (.int .i64 x))= .sl false 1 (l.length+1) (l.map (fun x=>D.flat (.int .i64 x))++ [.flat (.int .i64 y)]):=by simp
   rw [hnext,he] at hi
   unfold fnB lsB at hi
   unfold fnB lsB
   refine DW.walk ?_
   refine DC.t (T.lendC (ar:=[_]) (ds':=[_]) [(23,some (.row 3 1 (l.length+1) (l.map (fun x=>D.flat (.int .i64 x))++ [.flat (.int .i64 y)])))] EntC.h hi rfl
        (by exact⟨Vg.give (fun id h=>by simp [keys] at h;subst h;rfl) (Vw.own (List.mem_cons_self ..) (VwL.pers (cg_ (ac_ (fun _=>rfl) _) rfl))),Vg.of (Vl.ref rfl),Vg.of (Vl.ref rfl),Vg.of (Vl.ref rfl),Vg.of (Vl.ref rfl),trivial⟩) rfl rfl rfl (aal rfl)
        (EsG.of ⟨⟨Vl.own rfl,trivial⟩,VlL.pers (ac_ (fun _=>rfl) _),⟨Vl.own rfl,trivial⟩,VlL.pers (ac_ (fun _=>rfl) _),VlL.pers rfl,VlL.pers rfl,⟨Vl.clo trivial ⟨Vl.pers rfl,Vl.pers rfl,Vl.ref rfl,Vl.ref rfl,trivial⟩,trivial⟩,⟨Vl.clo trivial ⟨Vl.ref rfl,Vl.ref rfl,Vl.ref rfl,Vl.ref rfl,trivial⟩,trivial⟩,trivial⟩)) ⟨rfl,rfl,trivial⟩ ⟨rfl,rfl,rfl,rfl,rfl,rfl,rfl,rfl,rfl,trivial⟩ ?_
   refine DC.walk ?_
   exact⟨j+1,by omega,by omega,Sub.auto⟩
  ·have:j=of.length:=by omega
   subst this
   rw [hfin]
   unfold fnB lsB
   refine DW.walk ?_
   exact⟨.inl rfl,ResL.unitA⟩
theorem io_ (A:Au) (s:Int):∀ (ls:List (List Int)) (out:List Int),out.length≤(bw_ A s ls out).length
 | [],out=>Nat.le_refl _
 |x::r,out=>Nat.le_trans (by unfold a5_;split <;> simp) (io_ A s r (a5_ A s out x))
theorem yd_ (A:Au) (hok:AuOk A) (sym:Int) (hs0:0≤sym) (hs1:sym<A.r.length) (n:Nat) (hn:A.r.getD sym.toNat 0=(n:Int)) (hn2:n≤2) (of:List Int) (hof:∀ x∈of,0≤x∧x<(A.f.length:Int)) (hofl:of.length≤512) (out:List Int) (ho:OutOk A out):
  DLend Try.prog 106 [.flat (.int .i64 ((n:Nat):Int)),.sl false 1 of.length (of.map fun x=>D.flat (.int .i64 x)),.clo (.func 107) [] [.ptr (auC A) 0,.ptr [.flat (.int .i64 sym)] 0,.ref 54526080000003 0,.ref 54526080000005 0]] (fnB A out) (fnB A (bw_ A sym (dd_ of n []) out)) (.tup []):=by
 have hi:=h2_ (args':=[.flat (.slice none 0 0),.ref 53687091200003 0,.ref 53687091200005 0,.ref 53687091200004 0,.ref 53687091200006 0]) (vp_ A hok sym hs0 hs1 n hn hn2 of hof hofl n [] (by simp) (by simp) out ho) ⟨Le.nil _ _,Le.refl _,Le.refl _,Le.refl _,Le.refl _,trivial⟩ (Le.refl _)
 have q1:=al_ (isB A.f.length out)
 have q2:=ab_ out
 have q3:=al_ (isB A.f.length (bw_ A sym (dd_ of n []) out))
 have q4:=ab_ (bw_ A sym (dd_ of n []) out)
 have hmono:=io_ A sym (dd_ of n []) out
 have h3:=IdAt.of 3 53687091200003
 have h4:=IdAt.of 4 53687091200004
 have h5:=IdAt.of 5 53687091200005
 have h6:=IdAt.of 6 53687091200006
 have hpo:=ab_ of
 unfold fnB lsB at hi
 unfold fnB
 refine DLend.enterA Try.func106 Try.ntmps106 ?_
 refine DW.walk ?_
 exact⟨.inl rfl,ResL.unitA⟩
theorem s3_ (A:Au) (hok:AuOk A):DFun Try.prog 70 [auD A] (.sl false 1 (ad_ A).length ((ad_ A).map fun x=>D.flat (.int .i64 x))):=by
  have h3:=IdAt.of 3 54526080000005
  have h12:=IdAt.of 12 54526080000004
  have h4:=IdAt.of 4 54526080000003
  have hn:=hok.hi
  have hrl:=hok.alpha.hi
  have hz:List.replicate A.f.length (D.flat (.bool false))=(isB A.f.length []).map fun x=>D.flat (.bool x):=by
    refine List.ext_getElem? fun i=>?_
    rw [List.getElem?_map]
    by_cases hi:i<A.f.length
    ·rw [e9_ hi];simp [hi]
    ·rw [List.getElem?_eq_none (by simp;omega),List.getElem?_eq_none (by rw [d2_];omega)];rfl
  have hlsA:=fun (j:Nat) (hlt:j<A.r.length) (out0:List Int) (h1:∀ x∈out0,0≤x∧x<(A.f.length:Int)) (h2:out0.length≤512) (out:List Int) (ho:OutOk A out)=>by
    obtain⟨r1,r2,r3⟩:=iu_ hok hlt
    exact yd_ A hok j (by omega) (by omega) _ r3 r2 out0 h1 h2 out ho
  have hpr:∀ (i:Nat) (x:Int),A.r[i]?=some x→partD false 1 (i*1) (A.r.map fun x=>D.flat (.int .i64 x))=some (.flat (.int .i64 x)):=fun i x h=>an_ h
  rw [a1_]
  unfold fnB at hlsA
  rw [d1_] at hlsA
  generalize (A.r.map fun x=>D.flat (.int .i64 x))=LR at*
  generalize (A.f.map fun x=>D.flat (.bool x))=LB at*
  generalize aj_ A.to=LT at*
  refine DFun.enterA Try.func70 Try.ntmps70 ?_
  refine DW.walk ?_
  refine DW.adoptBox 54526080000005 0 54526080000006 3 1 rfl rfl rfl ?_
  refine DW.loopA (fun k:Nat=>⟨[(1,.ptr [.sl false 1 A.r.length LR,.sl false 1 A.f.length LB,.sl false 1 A.to.length LT] 0),(3,.ref 54526080000005 0),(4,.ref 54526080000003 0),(5,.flat (.int .i64 (wasK A k)))],fnB A (as_ A k)⟩)
    (fun k=> ∀ j<k - 1,(as_ A j).length<(as_ A (j+1)).length) (fun k=>2*(A.f.length - (as_ A k).length)+if wasK A k<((as_ A k).length:Nat) then 1 else 0) 0 ?_ (by omega) (by
      unfold fnB
      exact Sub.auto)
  intro k hk
  have hok1:=b9_ hok k
  have hlen:=hok1.len
  have hok2:=b9_ hok (k+1)
  have hlen2:=hok2.len
  have hpre:(as_ A k).length≤(as_ A (k+1)).length:=(j2_ A (as_ A k)).length_le
  by_cases hw:wasK A k<((as_ A k).length:Nat)
  · have hgk:∀ j<k,(as_ A j).length<(as_ A (j+1)).length:=fun j hj=>by
      by_cases hj2:j<k - 1
      ·exact hk j hj2
      · cases k with
        |zero=>omega
        | succ k=>
          have:j=k:=by omega
          subst this
          have:wasK A (j+1)=((as_ A j).length:Nat):=rfl
          omega
    have hcl:=wa_ (as_ A k) (by omega)
    have hw0:=hw
    generalize hwas:wasK A k=was at hw ⊢
    generalize hf:as_ A k=out at*
    have hpo:=ab_ out
    have hpi:=al_ (isB A.f.length out)
    unfold fnB
    refine DW.walk ?_
    refine DW.loopA (fun j:Nat=>⟨[(1,.ptr [.sl false 1 A.r.length LR,.sl false 1 A.f.length LB,.sl false 1 A.to.length LT] 0),(3,.ref 54526080000005 0),(4,.ref 54526080000003 0),(5,.flat (.int .i64 ((out.length:Nat):Int))),(6,.sl false 1 out.length (out.map fun x=>D.flat (.int .i64 x))),(22,.sl false 1 A.r.length LR),(23,.flat (.int .i64 ((A.r.length:Nat):Int))),(24,.flat (.int .i64 ((j:Nat):Int)))],fnB A (bn_ A out out j)⟩)
      (fun j=>j≤A.r.length) (fun j=>A.r.length - j) 0 ?_ (by omega) (by unfold fnB;exact Sub.auto)
    intro j hj
    have hokj:=iy_ hok hok1.rng hok1 j hj
    have hlenj:=hokj.len
    rcases Nat.lt_or_ge j A.r.length with hlt|hge
    · obtain⟨r1,r2,r3⟩:=iu_ hok hlt
      have hp:=hpr j _ r1
      have hls:=hlsA j hlt out hok1.rng (by omega) (bn_ A out out j) hokj
      rw [show bw_ A j (dd_ out (A.r.getD j 0).toNat []) (bn_ A out out j)=bn_ A out out (j+1) from (cc_ ..).symm] at hls
      have hg:(bn_ A out out j).length≤(bn_ A out out (j+1)).length:=by rw [cc_];exact (ee_ ..).length_le
      unfold fnB at*
      have q1:=al_ (isB A.f.length (bn_ A out out j))
      have q2:=ab_ (bn_ A out out j)
      have q3:=al_ (isB A.f.length (bn_ A out out (j+1)))
      have q4:=ab_ (bn_ A out out (j+1))
      generalize (A.r.getD j 0).toNat=rk at*
      clear hlsA hpr hcl hk hgk hw0 hokj hok1 hok2 r1 r3
      refine DW.walkTo 10 ?_
      refine DW.sub (s':=⟨[(1,.ptr [.sl false 1 A.r.length LR,.sl false 1 A.f.length LB,.sl false 1 A.to.length LT] 0),(3,.ref 54526080000005 0),(4,.ref 54526080000003 0),(5,.flat (.int .i64 ((out.length:Nat):Int))),(6,.sl false 1 out.length (out.map fun x=>D.flat (.int .i64 x))),(22,.sl false 1 A.r.length LR),(23,.flat (.int .i64 ((A.r.length:Nat):Int))),(24,.flat (.int .i64 ((j:Nat):Int))),(7,.ptr [.flat (.int .i64 ((j:Nat):Int))] 0),(8,.flat (.int .i64 ((rk:Nat):Int)))],[(54526080000003,some (.box [.own 54526080000004 A.f.length])),(54526080000004,some (.row 4 1 A.f.length ((isB A.f.length (bn_ A out out j)).map fun x=>D.flat (.bool x)))),(54526080000005,some (.box [.own 54526080000006 (bn_ A out out j).length])),(54526080000006,some (.row 3 1 (bn_ A out out j).length ((bn_ A out out j).map fun x=>D.flat (.int .i64 x))))]⟩) Sub.auto ?_
      refine DW.walk ?_
      exact⟨j+1,by omega,by omega,Sub.auto⟩
    · have hje:j=A.r.length:=by omega
      subst hje
      have hfk:bn_ A out out A.r.length=as_ A (k+1):=by rw [← hf];rfl
      rw [hfk]
      have hwk:wasK A (k+1)=((as_ A k).length:Nat):=rfl
      rw [hf] at hwk
      rw [hwas] at hw0
      have q2:=ab_ (as_ A (k+1))
      have q3:=al_ (isB A.f.length (as_ A (k+1)))
      unfold fnB
      refine DW.walk ?_
      refine⟨k+1,fun i hi=>hgk i (by omega),?_,by rw [hwk];exact Sub.auto⟩
      rw [hwk,if_pos hw]
      split <;> omega
  · have hk0:∃ k',k=k'+1:=⟨k - 1,by
      cases k with
      |zero=>exact absurd (show wasK A 0<((as_ A 0).length:Nat) from by simp [wasK];omega) hw
      |succ k=>rfl⟩
    obtain⟨k,rfl⟩:=hk0
    have hend:=qx_ hok (k:=k) (fun i hi=>hk i (by omega)) (by
      have:wasK A (k+1)=((as_ A k).length:Nat):=rfl
      omega)
    rw [hend] at hw ⊢
    generalize wasK A (k+1)=was at*
    have q1:=ab_ (ad_ A)
    unfold fnB
    refine DW.walk ?_
    exact⟨.inr rfl,ResOk.one [(54526080000006,some (.row 3 1 (ad_ A).length ((ad_ A).map fun x=>D.flat (.int .i64 x))))] rfl rfl ⟨rfl,trivial⟩ (Vw.own (List.mem_cons_self ..) (VwL.pers (ac_ (fun _=>rfl) _)))⟩
theorem v6_ {n:Nat} {l:List Int} {j:Nat} {i:Nat} (hi:i<n) (h:l[j]?=some (i:Int)):List.take (i*1) ((isB n (l.take j)).map fun x=>D.flat (.bool x))++ [D.flat (.bool true)]++List.drop (i*1+1) ((isB n (l.take j)).map fun x=>D.flat (.bool x))=(isB n (l.take (j+1))).map fun x=>D.flat (.bool x):=by
 rw [Nat.mul_one,List.take_add_one,h]
 exact t0_ hi (l.take j)
theorem tw_ (A:Au) (hA:Few A):DFun Try.prog 98 [auD A] (.tup [.sl false 1 (m3_ A).1.length ((m3_ A).1.map fun x=>D.flat (.bool x)),.flat (.int .i64 (((m3_ A).2:Nat):Int))]):=by
 have hc:=fy_ A hA
 by_cases hk:chk A=0
 ·have hok:=a6_ hk
  have hfd:=s3_ A hok
  have ho:=b9_ hok (A.f.length+1)
  have hlen:(ad_ A).length≤A.f.length:=ho.len
  have hrng:∀ x∈ad_ A,0≤x∧x<(A.f.length:Int):=ho.rng
  have hn:=hok.hi
  rw [ii_ hk]
  rw [hk] at hc
  have hpf:∀ (i:Nat) (x:Int),(ad_ A)[i]?=some x→partD false 1 (i*1) ((ad_ A).map fun x=>D.flat (.int .i64 x))=some (.flat (.int .i64 x)):=fun i x h=>an_ h
  have hlf:=ab_ (ad_ A)
  have hz:List.replicate A.f.length (D.flat (.bool false))=(isB A.f.length ((ad_ A).take 0)).map fun x=>D.flat (.bool x):=by
   refine List.ext_getElem? fun i=>?_
   rw [List.getElem?_map,List.take_zero]
   by_cases hi:i<A.f.length
   ·rw [e9_ hi];simp [hi]
   ·rw [List.getElem?_eq_none (by simp;omega),List.getElem?_eq_none (by rw [d2_];omega)];rfl
  have hset:=fun (j i:Nat) (hi:i<A.f.length) (h:(ad_ A)[j]?=some (i:Int))=>v6_ hi h
  have hil:∀ j,((isB A.f.length ((ad_ A).take j)).map fun x=>D.flat (.bool x)).length=A.f.length:=fun j=>by simp [d2_]
  have hfull:(ad_ A).take (ad_ A).length=ad_ A:=List.take_length
  have hlb:(isB A.f.length (ad_ A)).length=A.f.length:=d2_ _ _
  generalize ad_ A=F at*
  have hc:DFun Try.prog 47 [auD A] (.flat (.int .i64 0)):=hc
  rw [a1_] at*
  have hLB:=al_ A.f
  have hLT:=ao_ A.to
  have hLR:=ab_ A.r
  generalize (A.r.map fun x=>D.flat (.int .i64 x))=LR at*
  generalize (A.f.map fun x=>D.flat (.bool x))=LB at*
  generalize aj_ A.to=LT at*
  generalize (F.map fun x=>D.flat (.int .i64 x))=LF at*
  show DFun Try.prog 98 _ (.tup [.sl false 1 (isB A.f.length F).length ((isB A.f.length F).map fun x=>D.flat (.bool x)),.flat (.int .i64 0)])
  rw [hlb]
  clear ho hok hk
  refine DFun.enterA Try.func98 Try.ntmps98 ?_
  refine DW.walk ?_
  refine DW.loopA (fun j:Nat=>⟨[(5,.own 16 A.f.length),(18,.sl false 1 F.length LF),(19,.flat (.int .i64 ((F.length:Nat):Int))),(20,.flat (.int .i64 ((j:Nat):Int)))],[(16,some (.row 4 1 A.f.length ((isB A.f.length (F.take j)).map fun x=>D.flat (.bool x))))]⟩) (fun j=>j≤F.length) (fun j=>F.length - j) 0 ?_ (Nat.zero_le _)
  intro j hj
  have q1:=hil j
  have q2:=al_ (isB A.f.length (F.take j))
  have q3:=al_ (isB A.f.length (F.take (j+1)))
  rcases Nat.lt_or_ge j F.length with hlt|hge
  ·obtain⟨x,hx⟩:∃ x,F[j]?=some x:=⟨_,List.getElem?_eq_getElem hlt⟩
   obtain⟨x0,x1⟩:=hrng x (List.mem_of_getElem? hx)
   obtain⟨i,rfl⟩:=Int.eq_ofNat_of_zero_le x0
   have hp:=hpf j _ hx
   have hs:=hset j i (by omega) hx
   clear hpf hset hil hrng hx hz hfull
   generalize hG:((isB A.f.length (F.take (j+1))).map (fun x=>D.flat (.bool x)))=G at*
   generalize ((isB A.f.length (F.take j)).map (fun x=>D.flat (.bool x)))=H at*
   refine DW.walk ?_
   exact⟨j+1,by omega,by omega,by rw [hG];exact Sub.auto⟩
  ·obtain rfl:j=F.length:=by omega
   rw [hfull] at*
   clear hpf hset hil hrng hz
   refine DW.walk ?_
   exact⟨.inr rfl,ResOk.two [(16,some (.row 4 1 A.f.length ((isB A.f.length F).map fun x=>D.flat (.bool x))))] rfl rfl rfl ⟨rfl,trivial⟩ (Vw.own (List.mem_cons_self ..) (VwL.pers (ac_ (fun _=>rfl) _))) (Vw.pers rfl)⟩
 ·rw [rb_ hk]
  generalize chk A=e at*
  rw [a1_] at*
  generalize (A.r.map fun x=>D.flat (.int .i64 x))=LR at*
  generalize (A.f.map fun x=>D.flat (.bool x))=LB at*
  generalize aj_ A.to=LT at*
  show DFun Try.prog 98 _ (.tup [.sl false 1 0 [],.flat (.int .i64 ((e:Nat):Int))])
  refine DFun.enterA Try.func98 Try.ntmps98 ?_
  refine DW.walk ?_
  exact⟨.inr rfl,ResOk.two [] rfl rfl rfl trivial (Vw.p rfl (Le.nil _ _)) (Vw.pers rfl)⟩
end Go.Proofs.Ytichhfbkhnimmaa
