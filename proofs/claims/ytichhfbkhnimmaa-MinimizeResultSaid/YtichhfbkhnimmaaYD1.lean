/- Contracts over data: the check of alphabets. No condition. -/
import Derived.Test.YtichhfbkhnimmaaYEC2
import Derived.Test.YtichhfbkhnimmaaYML
set_option linter.unusedSimpArgs false
set_option linter.unusedVariables false
set_option maxHeartbeats 4000000
set_option maxRecDepth 8000
namespace Go.Proofs.Ytichhfbkhnimmaa
open Go Go.RowKit Go.PP Go.Dm Go.Rt
theorem bT {p:Prop} [Decidable p] (h:p):D.flat (.bool (decide p))=D.flat (.bool true):=by rw [decide_eq_true h]
theorem bF {p:Prop} [Decidable p] (h:¬ p):D.flat (.bool (decide p))=D.flat (.bool false):=by rw [decide_eq_false h]
theorem fp_ {l:List Int} {i:Nat} {x:Int} (h:l[i]?=some x):partD false 1 (i*1) (l.map fun x=> .flat (.int .i64 x))=some (.flat (.int .i64 x)):=fe_ h
theorem d9_ (l:List Int):persL (l.map fun x=>D.flat (.int .i64 x))=true:=af_ (fun _=>rfl) l
theorem ma_ {P:Int→Prop}:∀ {r:List Int},(∃ n∈r,P n)→ ∃ j n,r[j]?=some n∧P n∧ ∀ m∈r.take j,¬ P m
  | [],h=>by obtain⟨n,h,_⟩:=h;cases h
  | x :: r,h=>by
    by_cases hx:P x
    ·exact⟨0,x,rfl,hx,fun m hm=>by cases hm⟩
    · obtain⟨n,hn,hp⟩:=h
      rcases List.mem_cons.1 hn with rfl|hn
      ·exact absurd hp hx
      · obtain⟨j,n,h1,h2,h3⟩:=ma_ (r:=r) ⟨n,hn,hp⟩
        exact⟨j+1,n,by simpa using h1,h2,fun m hm=>by
          rcases List.mem_cons.1 (by simpa using hm) with rfl|hm
          ·exact hx
          ·exact h3 m hm⟩
theorem za_ (n:Int):DFun Try.prog 117 [.flat (.int .i64 n)] (.flat (.bool (decide (n<0∨2<n)))):=by
 by_cases h1:n<0
 ·rw [decide_eq_true (.inl h1)]
  refine DFun.enterA Try.func117 Try.ntmps117 ?_
  refine DW.walk ?_
  exact⟨.inr rfl,ResOk.one [] rfl rfl trivial (Vw.pers rfl)⟩
 ·by_cases h2:2<n
  ·rw [decide_eq_true (.inr h2)]
   refine DFun.enterA Try.func117 Try.ntmps117 ?_
   refine DW.walk ?_
   exact⟨.inr rfl,ResOk.one [] rfl rfl trivial (Vw.le (Vw.pers rfl) (Le.of_eq (bT (show n>2 from h2))))⟩
  ·rw [decide_eq_false (by omega)]
   refine DFun.enterA Try.func117 Try.ntmps117 ?_
   refine DW.walk ?_
   exact⟨.inr rfl,ResOk.one [] rfl rfl trivial (Vw.le (Vw.pers rfl) (Le.of_eq (bF (show ¬ n>2 from h2))))⟩
theorem sy_ (r:List Int) (hr:r.length≤1000000000) (j:Nat) (n:Int) (hj:r[j]?=some n) (hp:(n<0∨2<n)) (hno:∀ m∈r.take j,¬ (m<0∨2<m)):DFun Try.prog 130 [.sl false 1 r.length (r.map fun x=> .flat (.int .i64 x)),.clo (.func 117) [] []] (.flat (.int .i64 (j:Nat))):=by
 refine DFun.enterA Try.func130 Try.ntmps130 ?_
 have hjl:=(List.getElem?_eq_some_iff.1 hj).1
 obtain⟨L,hL⟩:∃ L,(r.map fun x=>D.flat (.int .i64 x))=L:=⟨_,rfl⟩
 have hLp:persL L=true:=by rw [← hL];exact d9_ r
 have hpt:∀ (i:Nat) (x:Int),r[i]?=some x→partD false 1 (i*1) L=some (.flat (.int .i64 x)):=fun i x h=>by rw [← hL];exact fp_ h
 rw [hL]
 clear hL
 refine DW.walk ?_
 refine DW.loopA (fun i:Nat=>⟨[(0,.sl false 1 r.length L),(1,.clo (.func 117) [] []),(6,.sl false 1 r.length L),(7,.flat (.int .i64 (r.length:Nat))),(8,.flat (.int .i64 (i:Nat)))],[]⟩) (fun i=>i≤j) (fun i=>j - i) 0 ?_ (Nat.zero_le _)
 intro i hi
 rcases Nat.lt_or_ge i j with hlt|hge
 ·obtain⟨x,hx⟩:∃ x,r[i]?=some x:=⟨_,List.getElem?_eq_getElem (by omega)⟩
  have hxp:=hpt i x hx
  have hnx:¬ (x<0∨2<x):=hno x (List.mem_take_iff_getElem.2 ⟨i,by omega,by rw [List.getElem?_eq_getElem (by omega)] at hx;exact Option.some.inj hx⟩)
  have hb:=za_ x
  rw [decide_eq_false hnx] at hb
  clear hpt hno hp hj
  refine DW.walk ?_
  exact⟨i+1,by omega,by omega,Sub.auto⟩
 ·obtain rfl:i=j:=by omega
  have hxp:=hpt i n hj
  have hb:=za_ n
  rw [decide_eq_true hp] at hb
  clear hpt hno
  refine DW.walk ?_
  exact⟨.inr rfl,ResOk.one [] rfl rfl trivial (Vw.pers rfl)⟩
theorem tr_ (r:List Int) (hr:r.length≤1000000000) (hno:∀ m∈r,¬ (m<0∨2<m)):DFun Try.prog 130 [.sl false 1 r.length (r.map fun x=> .flat (.int .i64 x)),.clo (.func 117) [] []] (.flat (.int .i64 (-1))):=by
 refine DFun.enterA Try.func130 Try.ntmps130 ?_
 obtain⟨L,hL⟩:∃ L,(r.map fun x=>D.flat (.int .i64 x))=L:=⟨_,rfl⟩
 have hLp:persL L=true:=by rw [← hL];exact d9_ r
 have hpt:∀ (i:Nat) (x:Int),r[i]?=some x→partD false 1 (i*1) L=some (.flat (.int .i64 x)):=fun i x h=>by rw [← hL];exact fp_ h
 rw [hL]
 clear hL
 refine DW.walk ?_
 refine DW.loopA (fun i:Nat=>⟨[(0,.sl false 1 r.length L),(1,.clo (.func 117) [] []),(6,.sl false 1 r.length L),(7,.flat (.int .i64 (r.length:Nat))),(8,.flat (.int .i64 (i:Nat)))],[]⟩) (fun i=>i≤r.length) (fun i=>r.length - i) 0 ?_ (Nat.zero_le _)
 intro i hi
 rcases Nat.lt_or_ge i r.length with hlt|hge
 ·obtain⟨x,hx⟩:∃ x,r[i]?=some x:=⟨_,List.getElem?_eq_getElem (by omega)⟩
  have hxp:=hpt i x hx
  have hnx:¬ (x<0∨2<x):=hno x (List.mem_of_getElem? hx)
  have hb:=za_ x
  rw [decide_eq_false hnx] at hb
  clear hpt hno
  refine DW.walk ?_
  exact⟨i+1,by omega,by omega,Sub.auto⟩
 ·obtain rfl:i=r.length:=by omega
  clear hpt hno
  refine DW.walk ?_
  exact⟨.inr rfl,ResOk.one [] rfl rfl trivial (Vw.pers rfl)⟩
theorem tl_ (v:Int) (r:List Int) (hr:r.length≤1000000000) (j:Nat) (n:Int) (hj:r[j]?=some n) (hp:(v=n)) (hno:∀ m∈r.take j,¬ (v=m)):DFun Try.prog 131 [.sl false 1 r.length (r.map fun x=> .flat (.int .i64 x)),.flat (.int .i64 v)] (.flat (.int .i64 (j:Nat))):=by
 refine DFun.enterA Try.func131 Try.ntmps131 ?_
 have hjl:=(List.getElem?_eq_some_iff.1 hj).1
 obtain⟨L,hL⟩:∃ L,(r.map fun x=>D.flat (.int .i64 x))=L:=⟨_,rfl⟩
 have hLp:persL L=true:=by rw [← hL];exact d9_ r
 have hpt:∀ (i:Nat) (x:Int),r[i]?=some x→partD false 1 (i*1) L=some (.flat (.int .i64 x)):=fun i x h=>by rw [← hL];exact fp_ h
 rw [hL]
 clear hL
 refine DW.walk ?_
 refine DW.loopA (fun i:Nat=>⟨[(0,.sl false 1 r.length L),(1,.flat (.int .i64 v)),(6,.sl false 1 r.length L),(7,.flat (.int .i64 (r.length:Nat))),(8,.flat (.int .i64 (i:Nat)))],[]⟩) (fun i=>i≤j) (fun i=>j - i) 0 ?_ (Nat.zero_le _)
 intro i hi
 rcases Nat.lt_or_ge i j with hlt|hge
 ·obtain⟨x,hx⟩:∃ x,r[i]?=some x:=⟨_,List.getElem?_eq_getElem (by omega)⟩
  have hxp:=hpt i x hx
  have hnx:¬ (v=x):=hno x (List.mem_take_iff_getElem.2 ⟨i,by omega,by rw [List.getElem?_eq_getElem (by omega)] at hx;exact Option.some.inj hx⟩)
  have hq:¬ v=x:=hnx
  clear hpt hno hp hj
  refine DW.walk ?_
  exact⟨i+1,by omega,by omega,Sub.auto⟩
 ·obtain rfl:i=j:=by omega
  have hxp:=hpt i n hj
  have hq:v=n:=hp
  clear hpt hno
  refine DW.walk ?_
  exact⟨.inr rfl,ResOk.one [] rfl rfl trivial (Vw.pers rfl)⟩
theorem se_ (v:Int) (r:List Int) (hr:r.length≤1000000000) (hno:∀ m∈r,¬ (v=m)):DFun Try.prog 131 [.sl false 1 r.length (r.map fun x=> .flat (.int .i64 x)),.flat (.int .i64 v)] (.flat (.int .i64 (-1))):=by
 refine DFun.enterA Try.func131 Try.ntmps131 ?_
 obtain⟨L,hL⟩:∃ L,(r.map fun x=>D.flat (.int .i64 x))=L:=⟨_,rfl⟩
 have hLp:persL L=true:=by rw [← hL];exact d9_ r
 have hpt:∀ (i:Nat) (x:Int),r[i]?=some x→partD false 1 (i*1) L=some (.flat (.int .i64 x)):=fun i x h=>by rw [← hL];exact fp_ h
 rw [hL]
 clear hL
 refine DW.walk ?_
 refine DW.loopA (fun i:Nat=>⟨[(0,.sl false 1 r.length L),(1,.flat (.int .i64 v)),(6,.sl false 1 r.length L),(7,.flat (.int .i64 (r.length:Nat))),(8,.flat (.int .i64 (i:Nat)))],[]⟩) (fun i=>i≤r.length) (fun i=>r.length - i) 0 ?_ (Nat.zero_le _)
 intro i hi
 rcases Nat.lt_or_ge i r.length with hlt|hge
 ·obtain⟨x,hx⟩:∃ x,r[i]?=some x:=⟨_,List.getElem?_eq_getElem (by omega)⟩
  have hxp:=hpt i x hx
  have hnx:¬ (v=x):=hno x (List.mem_of_getElem? hx)
  have hq:¬ v=x:=hnx
  clear hpt hno
  refine DW.walk ?_
  exact⟨i+1,by omega,by omega,Sub.auto⟩
 ·obtain rfl:i=r.length:=by omega
  clear hpt hno
  refine DW.walk ?_
  exact⟨.inr rfl,ResOk.one [] rfl rfl trivial (Vw.pers rfl)⟩
theorem ov_ (fn:Fn):Le (.flat (.func fn #[] #[])) (.clo fn [] []):=fun M w G v _ h=>by
 simp only [Rep] at h ⊢
 exact⟨[],[],h,by simp only [RepL],by simp only [RepL]⟩
open Classical in
theorem zb_ (r:List Int) (hr:r.length≤1000000000):DFun Try.prog 116 [.sl false 1 r.length (r.map fun x=> .flat (.int .i64 x)),.flat (.func (.func 117) #[] #[])] (.flat (.bool (decide (∃ n∈r,n<0∨2<n)))):=by
 by_cases h:∃ n∈r,n<0∨2<n
 ·obtain⟨j,n,h1,h2,h3⟩:=ma_ h
  have hi:=(sy_ r hr j n h1 h2 h3).le (args':=[.sl false 1 r.length (r.map fun x=> .flat (.int .i64 x)),.flat (.func (.func 117) #[] #[])]) ⟨Le.refl _,ov_ _,trivial⟩ (Le.refl _)
  rw [decide_eq_true h]
  generalize (r.map fun x=>D.flat (.int .i64 x))=L at*
  clear h1 h2 h3 h
  refine DFun.enterA Try.func116 Try.ntmps116 ?_
  refine DW.walk ?_
  exact⟨.inr rfl,ResOk.one [] rfl rfl trivial (Vw.le (Vw.pers rfl) (Le.of_eq (bT (by omega))))⟩
 ·have hi:=(tr_ r hr (fun m hm hb=>h ⟨m,hm,hb⟩)).le (args':=[.sl false 1 r.length (r.map fun x=> .flat (.int .i64 x)),.flat (.func (.func 117) #[] #[])]) ⟨Le.refl _,ov_ _,trivial⟩ (Le.refl _)
  rw [decide_eq_false h]
  generalize (r.map fun x=>D.flat (.int .i64 x))=L at*
  clear h
  refine DFun.enterA Try.func116 Try.ntmps116 ?_
  refine DW.walk ?_
  exact⟨.inr rfl,ResOk.one [] rfl rfl trivial (Vw.pers rfl)⟩
open Classical in
theorem aav (r:List Int) (v:Int) (hr:r.length≤1000000000):DFun Try.prog 118 [.sl false 1 r.length (r.map fun x=> .flat (.int .i64 x)),.flat (.int .i64 v)] (.flat (.bool (decide (v∈r)))):=by
 by_cases h:v∈r
 ·obtain⟨j,n,h1,h2,h3⟩:=ma_ (P:=fun m=>v=m) ⟨v,h,rfl⟩
  have hi:=tl_ v r hr j n h1 h2 h3
  rw [decide_eq_true h]
  generalize (r.map fun x=>D.flat (.int .i64 x))=L at*
  clear h1 h2 h3 h
  refine DFun.enterA Try.func118 Try.ntmps118 ?_
  refine DW.walk ?_
  exact⟨.inr rfl,ResOk.one [] rfl rfl trivial (Vw.le (Vw.pers rfl) (Le.of_eq (bT (by omega))))⟩
 ·have hi:=se_ v r hr (fun m hm hb=>h (by rw [hb];exact hm))
  rw [decide_eq_false h]
  generalize (r.map fun x=>D.flat (.int .i64 x))=L at*
  clear h
  refine DFun.enterA Try.func118 Try.ntmps118 ?_
  refine DW.walk ?_
  exact⟨.inr rfl,ResOk.one [] rfl rfl trivial (Vw.pers rfl)⟩
theorem s8_ (r:List Int) (hr:r.length≤1000000000):DFun Try.prog 88 [.sl false 1 r.length (r.map fun x=> .flat (.int .i64 x))] (.flat (.int .i64 (alphaE r:Nat))):=by
 have h1:=zb_ r hr
 have h2:=aav r 0 hr
 unfold alphaE
 generalize (r.map fun x=>D.flat (.int .i64 x))=L at*
 by_cases c1:r.length<1∨4096<r.length
 ·rw [if_pos c1]
  clear h1 h2
  by_cases c2:r.length<1
  ·refine DFun.enterA Try.func88 Try.ntmps88 ?_
   refine DW.walk ?_
   exact⟨.inr rfl,ResOk.one [] rfl rfl trivial (Vw.pers rfl)⟩
  ·have c3:4096<r.length:=by omega
   refine DFun.enterA Try.func88 Try.ntmps88 ?_
   refine DW.walk ?_
   exact⟨.inr rfl,ResOk.one [] rfl rfl trivial (Vw.pers rfl)⟩
 ·rw [if_neg c1]
  have c2:¬ r.length<1:=by omega
  have c3:¬ 4096<r.length:=by omega
  by_cases c4:∃ n∈r,n<0∨2<n
  ·rw [if_pos c4]
   rw [decide_eq_true c4] at h1
   refine DFun.enterA Try.func88 Try.ntmps88 ?_
   refine DW.walk ?_
   exact⟨.inr rfl,ResOk.one [] rfl rfl trivial (Vw.pers rfl)⟩
  ·rw    [if_neg c4]
   rw [decide_eq_false c4] at h1
   by_cases c5:(0:Int)∈r
   ·    rw [if_pos c5]
        rw [decide_eq_true c5] at h2
        refine DFun.enterA Try.func88 Try.ntmps88 ?_
        refine DW.walk ?_
        exact⟨.inr rfl,ResOk.one [] rfl rfl trivial (Vw.pers rfl)⟩
   ·    rw [if_neg c5]
        rw [decide_eq_false c5] at h2
        refine DFun.enterA Try.func88 Try.ntmps88 ?_
        refine DW.walk ?_
        exact⟨.inr rfl,ResOk.one [] rfl rfl trivial (Vw.pers rfl)⟩
theorem tz_ (a:Option Addr) (c:Nat):DFun Try.prog 76 [.flat (.slice a 0 c)] (.sl false 1 0 []):=by
 cases a with
 |none=>
  refine DFun.enterA Try.func76 Try.ntmps76 ?_
  refine DW.walk ?_
  exact⟨.inr rfl,ResOk.one [] rfl rfl trivial (Vw.le (Vw.pers rfl) (Le.nil _ _))⟩
 |some a=>
  refine DFun.enterA Try.func76 Try.ntmps76 ?_
  refine DW.walk ?_
  exact⟨.inr rfl,ResOk.one [] rfl rfl trivial (Vw.pers rfl)⟩
theorem nl_ (r:List Int) (hr:r.length≤1000000000):DFun Try.prog 76 [.sl false 1 r.length (r.map fun x=> .flat (.int .i64 x))] (.sl false 1 r.length (r.map fun x=> .flat (.int .i64 x))):=by
 by_cases h0:r=[]
 ·subst h0
  refine .intro fun M w vals hM hv hgl=>?_
  simp only [RepL] at hv
  obtain⟨u,us,rfl,hu,rfl⟩:=hv
  have hu2:=hu
  simp only [Rep] at hu2
  obtain⟨a,cap,rfl,_⟩:=hu2
  exact (tz_ a cap).go M w [.slice a 0 cap] hM (by simp only [RepL,Rep];exact⟨_,_,rfl,rfl,rfl⟩) hgl
 ·have hl:0<r.length:=List.length_pos_iff.2 h0
  have hp:=d9_ r
  generalize (r.map fun x=>D.flat (.int .i64 x))=L at*
  refine DFun.enterA Try.func76 Try.ntmps76 ?_
  refine DW.walk ?_
  exact⟨.inr rfl,ResOk.one [] rfl rfl trivial (Vw.le (Vw.pers rfl) (Le.of_eq (congrArg (fun k=>D.sl false 1 k L) (Nat.zero_add _))))⟩
end Go.Proofs.Ytichhfbkhnimmaa
namespace Go.Proofs.Ytichhfbkhnimmaa
open Go Go.RowKit Go.PP Go.Dm Go.Rt
theorem sv_ (r :List Int) (hr:r.length≤1000000000):DFun Try.prog 49 [.sl false 1 r.length (r.map fun x=> .flat (.int .i64 x))] (.flat (.int .i64 (alphaE r:Nat))):=by
  have hrp:=d9_ r
  by_cases h1:r.length<1∨4096<r.length
  · have e:alphaE r=2:=by unfold alphaE;rw [if_pos h1]
    rw [e]
    generalize (r.map fun x=>D.flat (.int .i64 x))=LR at*
    refine DFun.enterA Try.func49 Try.ntmps49 ?_
    rcases h1 with h1|h1
    · refine DW.walk ?_
      exact⟨.inr rfl,ResOk.one [] rfl rfl trivial (Vw.pers rfl)⟩
    · refine DW.walk ?_
      exact⟨.inr rfl,ResOk.one [] rfl rfl trivial (Vw.pers rfl)⟩
  · have h2 : 1≤r.length∧r.length≤4096:=by omega
    have h3:=h2.1
    have h4:=h2.2
    refine DFun.enterA Try.func49 Try.ntmps49 ?_
    refine DW.walk ?_
    refine DW.loopA (fun p:Nat × Bool=>⟨[(0,.sl false 1 r.length (r.map fun x=> .flat (.int .i64 x))),(2,.flat (.int .i64 0)),(3,.flat (.bool p.2)),(4,.flat (.int .i64 (p.1:Nat)))],[]⟩) (fun p=>p.1≤r.length∧(∀ m∈r.take p.1,¬ (m<0∨2<m))∧(p.2=true↔(0:Int) ∉ r.take p.1)) (fun p=>r.length - p.1) (0,true) ?_ ⟨Nat.zero_le _,by simp,by simp⟩ (by exact Sub.auto)
    rintro⟨i,b⟩ ⟨hi,hno,hb⟩
    have hi:i≤r.length:=hi
    have hno:∀ m∈r.take i,¬ (m<0∨2<m):=hno
    have hb:b=true↔(0:Int) ∉ r.take i:=hb
    rcases Nat.lt_or_ge i r.length with hlt|hge
    · obtain ⟨k,hk⟩:∃ k,r[i]?=some k:=⟨_,List.getElem?_eq_getElem hlt⟩
      have hp:=fp_ hk
      by_cases hbad:k<0∨2<k
      · have e:alphaE r=3:=by unfold alphaE;rw [if_neg h1,if_pos ⟨k,List.mem_of_getElem? hk,hbad⟩]
        rw [e]
        clear hno hb hk
        generalize (r.map fun x=>D.flat (.int .i64 x))=LR at*
        by_cases hk0:k<0
        · refine DW.walk ?_
          exact⟨.inr rfl,ResOk.one [] rfl rfl trivial (Vw.pers rfl)⟩
        · have hk2:=hbad.resolve_left hk0
          refine DW.walk ?_
          exact⟨.inr rfl,ResOk.one [] rfl rfl trivial (Vw.pers rfl)⟩
      · have hk0:¬ k<0:=fun h=>hbad (.inl h)
        have hk2:¬ 2<k:=fun h=>hbad (.inr h)
        have ht:r.take (i+1)=r.take i++ [k]:=by rw [List.take_add_one,hk];rfl
        have hno':∀ m∈r.take (i+1),¬ (m<0∨2<m):=fun m hm=>by
          rw [ht] at hm
          rcases List.mem_append.1 hm with hm|hm
          ·exact hno m hm
          ·rw [List.mem_singleton.1 hm];exact hbad
        cases b with
        | true =>
          have hb':decide (0<k)=true↔(0:Int) ∉ r.take (i+1):=by
            rw [ht,List.mem_append,List.mem_singleton,decide_eq_true_iff]
            have:=hb.1 rfl
            constructor
            · rintro h (h'|h')
              ·exact this h'
              ·omega
            · intro h
              have:¬ (0:Int)=k:=fun e=>h (.inr e)
              omega
          clear hno hb hk h1 ht hbad
          generalize (r.map fun x=>D.flat (.int .i64 x))=LR at*
          refine DW.walk ?_
          exact⟨(i+1,decide (0<k)),⟨by show i+1≤_;omega,hno',hb'⟩,by show r.length - (i+1)<r.length - i;omega,Sub.auto⟩
        | false=>
          have hb':false=true↔(0:Int) ∉ r.take (i+1):=by
            rw [ht,List.mem_append]
            constructor
            ·intro h;cases h
            · intro h
              exact hb.2 fun h'=>h (.inl h')
          clear hno hb hk h1 ht hbad
          generalize (r.map fun x=>D.flat (.int .i64 x))=LR at*
          refine DW.walk ?_
          exact⟨(i+1,false),⟨by show i+1≤_;omega,hno',hb'⟩,by show r.length - (i+1)<r.length - i;omega,Sub.auto⟩
    · obtain rfl:i=r.length:=by omega
      rw [List.take_length] at hno hb
      have hn3:¬ ∃ n∈r,n<0∨2<n:=fun⟨n,a1,a2⟩=>hno n a1 a2
      cases b with
      | true=>
        have e:alphaE r=9:=by unfold alphaE;rw [if_neg h1,if_neg hn3,if_neg (hb.1 rfl)]
        rw [e]
        clear hno hb hn3
        generalize (r.map fun x=>D.flat (.int .i64 x))=LR at*
        refine DW.walk ?_
        exact⟨.inr rfl,ResOk.one [] rfl rfl trivial (Vw.pers rfl)⟩
      | false=>
        have e:alphaE r=0:=by
          unfold alphaE
          rw [if_neg h1,if_neg hn3,if_pos]
          by_cases h:(0:Int)∈r
          ·exact h
          · have:=hb.2 h
            cases this
        rw [e]
        clear hno hb hn3
        generalize (r.map fun x=>D.flat (.int .i64 x))=LR at*
        refine DW.walk ?_
        exact⟨.inr rfl,ResOk.one [] rfl rfl trivial (Vw.pers rfl)⟩
end Go.Proofs.Ytichhfbkhnimmaa
namespace Go.Proofs.Ytichhfbkhnimmaa
open Go Go.RowKit Go.PP Go.Dm Go.Rt
end Go.Proofs.Ytichhfbkhnimmaa
namespace Go.Proofs.Ytichhfbkhnimmaa
open Go Go.RowKit Go.PP Go.Dm Go.Rt
end Go.Proofs.Ytichhfbkhnimmaa
namespace Go.Proofs.Ytichhfbkhnimmaa
open Go Go.RowKit Go.PP Go.Dm Go.Rt
end Go.Proofs.Ytichhfbkhnimmaa
set_option linter.unusedSectionVars false
set_option maxHeartbeats 400000
namespace Go.Mn
open Go Go.RowKit Go.PP Go.Dm Go.Rt
variable [GlobW]
abbrev y9_ (l:List Int):D:= .sl false 1 l.length (l.map fun x=>D.flat (.int .i64 x))
abbrev ww_ (l:List Bool):D:= .sl false 1 l.length (l.map fun x=>D.flat (.bool x))
abbrev ag_ (t:List (List Int)):List D:=t.map fun r=>D.sl false 1 r.length (r.map fun x=>D.flat (.int .i64 x))
abbrev ach (t:List (List Int)):D:= .sl false 1 t.length (ag_ t)
def auC (A:Au):List D:=[y9_ A.r,ww_ A.f,ach A.to]
def auD (A:Au):D:= .agg (auC A)
theorem nx_ (rs:List Int) (fs:List Bool) (tt:List (List Int)):auC ⟨rs,fs,tt⟩=[.sl false 1 rs.length (rs.map fun x=>D.flat (.int .i64 x)),.sl false 1 fs.length (fs.map fun x=>D.flat (.bool x)),.sl false 1 tt.length (ag_ tt)]:=rfl
theorem dj_ (rs:List Int) (fs:List Bool) (tt:List (List Int)):auD ⟨rs,fs,tt⟩= .agg [.sl false 1 rs.length (rs.map fun x=>D.flat (.int .i64 x)),.sl false 1 fs.length (fs.map fun x=>D.flat (.bool x)),.sl false 1 tt.length (ag_ tt)]:=rfl
theorem au_ (A:Au):auD A= .agg [.sl false 1 A.r.length (A.r.map fun x=>D.flat (.int .i64 x)),.sl false 1 A.f.length (A.f.map fun x=>D.flat (.bool x)),.sl false 1 A.to.length (ag_ A.to)]:=rfl
theorem d0_ (A:Au):auC A=[.sl false 1 A.r.length (A.r.map fun x=>D.flat (.int .i64 x)),.sl false 1 A.f.length (A.f.map fun x=>D.flat (.bool x)),.sl false 1 A.to.length (ag_ A.to)]:=rfl
theorem dy_ {l:List Bool} {i:Nat} {x:Bool} (h:l[i]?=some x):partD false 1 (i*1) (l.map fun x=>D.flat (.bool x))=some (.flat (.bool x)):=by
 unfold partD
 rw [if_neg (by decide),Nat.mul_one,List.getElem?_map,h];rfl
theorem as_ {l:List Int} {i:Nat} {x:Int} (h:l[i]?=some x):partD false 1 (i*1) (l.map fun x=>D.flat (.int .i64 x))=some (.flat (.int .i64 x)):=by
 unfold partD
 rw [if_neg (by decide),Nat.mul_one,List.getElem?_map,h];rfl
theorem c8_ {t:List (List Int)} {i:Nat} {r:List Int} (h:t[i]?=some r):partD false 1 (i*1) (ag_ t)=some (.sl false 1 r.length (r.map fun x=>D.flat (.int .i64 x))):=by
 unfold partD
 rw [if_neg (by decide),Nat.mul_one,List.getElem?_map,h];rfl
theorem ad_ (l:List Int):persL (l.map fun x=>D.flat (.int .i64 x))=true:=af_ (fun _=>rfl) l
theorem ai_ (l:List Bool):persL (l.map fun x=>D.flat (.bool x))=true:=af_ (fun _=>rfl) l
theorem al_ (t:List (List Int)):persL (ag_ t)=true:=af_ (fun _=>rfl) t
open Classical in
theorem bf_ {P:Nat→Prop} (h:∃ i,P i):∃ i,P i∧ ∀ j,j<i→ ¬ P j:=by
 obtain⟨i,hi⟩:=h
 induction i using Nat.strongRecOn with
 |_ i ih=>
  by_cases hj:∃ j,j<i∧P j
  · obtain⟨j,h1,h2⟩:=hj
    exact ih j h1 h2
  ·exact⟨i,hi,fun j h1 h2=>hj ⟨j,h1,h2⟩⟩
end Go.Mn
set_option maxHeartbeats 4000000
namespace Go.Proofs.Ytichhfbkhnimmaa
open Go Go.RowKit Go.PP Go.Dm Go.Rt Go.Mn
theorem yi_ (A:Au) (s:Int):DFun Try.prog 68 [auD A,.flat (.int .i64 s)] (.flat (.bool (decide (0≤s∧s<(A.f.length:Int))))):=by
 obtain⟨rs,fs,tt⟩:=A
 rw [dj_]
 generalize (rs.map fun x=>D.flat (.int .i64 x))=LR
 generalize (fs.map fun x=>D.flat (.bool x))=LB
 generalize ag_ tt=LT
 refine DFun.enterA Try.func68 Try.ntmps68 ?_
 by_cases h:0≤s
 ·have e:D.flat (.bool (decide (s<(fs.length:Int))))=D.flat (.bool (decide (0≤s∧s<(fs.length:Int)))):=by
   rw [decide_eq_decide.2 (⟨fun h2=>⟨h,h2⟩,fun h2=>h2.2⟩:s<(fs.length:Int)↔0≤s∧s<(fs.length:Int))]
  refine DW.walk ?_
  exact⟨.inr rfl,ResOk.one [] rfl rfl trivial (Vw.le (Vw.pers rfl) (Le.of_eq (e)))⟩
 ·rw [decide_eq_false (show ¬ (0≤s∧s<(fs.length:Int)) from fun h2=>h h2.1)]
  refine DW.walk ?_
  exact⟨.inr rfl,ResOk.one [] rfl rfl trivial (Vw.pers rfl)⟩
theorem sb_ (A:Au) (s:Int):DFun Try.prog 91 [.flat (.int .i64 s),.ptr (auC A) 0] (.flat (.bool (!decide (0≤s∧s<(A.f.length:Int))))):=by
 have hs:=yi_ A s
 obtain⟨rs,fs,tt⟩:=A
 simp only [dj_,nx_] at*
 generalize (rs.map fun x=>D.flat (.int .i64 x))=LR at*
 generalize (fs.map fun x=>D.flat (.bool x))=LB at*
 generalize ag_ tt=LT at*
 refine DFun.enterA Try.func91 Try.ntmps91 ?_
 refine DW.walk ?_
 exact⟨.inr rfl,ResOk.one [] rfl rfl trivial (Vw.pers rfl)⟩
theorem si_ (A:Au) (l:List Int) (hl:l.length≤1000000000) (j:Nat) (x:Int) (h1:l[j]?=some x) (h2:¬ (0≤x∧x<(A.f.length:Int))) (h3:∀ i y,i<j→l[i]?=some y→0≤y∧y<(A.f.length:Int)):DFun Try.prog 119 [.sl false 1 l.length (l.map fun x=>D.flat (.int .i64 x)),.clo (.func 91) [] [.ptr (auC A) 0]] (.flat (.int .i64 ((j:Nat):Int))):=by
 have hb:=sb_ A
 have hjl:=(List.getElem?_eq_some_iff.1 h1).1
 have hlp:=ad_ l
 have hpt:∀ (i:Nat) (x:Int),l[i]?=some x→partD false 1 (i*1) (l.map fun x=>D.flat (.int .i64 x))=some (.flat (.int .i64 x)):=fun i x h=>as_ h
 generalize (l.map fun x=>D.flat (.int .i64 x))=L at*
 obtain⟨rs,fs,tt⟩:=A
 simp only [dj_,nx_] at*
 generalize (rs.map fun x=>D.flat (.int .i64 x))=LR at*
 generalize (fs.map fun x=>D.flat (.bool x))=LB at*
 generalize ag_ tt=LT at*
 refine DFun.enterA Try.func119 Try.ntmps119 ?_
 refine DW.walk ?_
 refine DW.loopA (fun i:Nat=>⟨[(0,.sl false 1 l.length L),(1,.clo (.func 91) [] [.ptr [.sl false 1 rs.length LR,.sl false 1 fs.length LB,.sl false 1 tt.length LT] 0]),(6,.sl false 1 l.length L),(7,.flat (.int .i64 ((l.length:Nat):Int))),(8,.flat (.int .i64 ((i:Nat):Int)))],[]⟩) (fun i=>i≤j) (fun i=>j - i) 0 ?_ (Nat.zero_le _)
 intro i hi
 rcases Nat.lt_or_ge i j with hlt|hge
 ·obtain⟨y,hy⟩:∃ y,l[i]?=some y:=⟨_,List.getElem?_eq_getElem (by omega)⟩
  have hp:=hpt i y hy
  have hby:=hb y
  rw [decide_eq_true (h3 i y hlt hy)] at hby
  clear hpt hb h1 h2 h3
  refine DW.walk ?_
  exact⟨i+1,by omega,by omega,Sub.auto⟩
 ·obtain rfl:i=j:=by omega
  have hp:=hpt i x h1
  have hby:=hb x
  rw [decide_eq_false h2] at hby
  clear hpt hb h1 h2 h3
  refine DW.walk ?_
  exact⟨.inr rfl,ResOk.one [] rfl rfl trivial (Vw.pers rfl)⟩
theorem tw_ (A:Au) (l:List Int) (hl:l.length≤1000000000) (h3:∀ (i:Nat) y,l[i]?=some y→0≤y∧y<(A.f.length:Int)):DFun Try.prog 119 [.sl false 1 l.length (l.map fun x=>D.flat (.int .i64 x)),.clo (.func 91) [] [.ptr (auC A) 0]] (.flat (.int .i64 (-1))):=by
 have hb:=sb_ A
 have hlp:=ad_ l
 have hpt:∀ (i:Nat) (x:Int),l[i]?=some x→partD false 1 (i*1) (l.map fun x=>D.flat (.int .i64 x))=some (.flat (.int .i64 x)):=fun i x h=>as_ h
 generalize (l.map fun x=>D.flat (.int .i64 x))=L at*
 obtain⟨rs,fs,tt⟩:=A
 simp only [dj_,nx_] at*
 generalize (rs.map fun x=>D.flat (.int .i64 x))=LR at*
 generalize (fs.map fun x=>D.flat (.bool x))=LB at*
 generalize ag_ tt=LT at*
 refine DFun.enterA Try.func119 Try.ntmps119 ?_
 refine DW.walk ?_
 refine DW.loopA (fun i:Nat=>⟨[(0,.sl false 1 l.length L),(1,.clo (.func 91) [] [.ptr [.sl false 1 rs.length LR,.sl false 1 fs.length LB,.sl false 1 tt.length LT] 0]),(6,.sl false 1 l.length L),(7,.flat (.int .i64 ((l.length:Nat):Int))),(8,.flat (.int .i64 ((i:Nat):Int)))],[]⟩) (fun i=>i≤l.length) (fun i=>l.length - i) 0 ?_ (Nat.zero_le _)
 intro i hi
 rcases Nat.lt_or_ge i l.length with hlt|hge
 ·obtain⟨y,hy⟩:∃ y,l[i]?=some y:=⟨_,List.getElem?_eq_getElem (by omega)⟩
  have hp:=hpt i y hy
  have hby:=hb y
  rw [decide_eq_true (h3 i y hy)] at hby
  clear hpt hb h3
  refine DW.walk ?_
  exact⟨i+1,by omega,by omega,Sub.auto⟩
 ·obtain rfl:i=l.length:=by omega
  clear hpt hb h3
  refine DW.walk ?_
  exact⟨.inr rfl,ResOk.one [] rfl rfl trivial (Vw.pers rfl)⟩
theorem wb_ (A:Au) (l:List Int) (hl:l.length≤1000000000) (b:Bool) (h:b=true∧(∃ s∈l,s<0∨(A.f.length:Int)≤s)∨b=false∧ ¬ ∃ s∈l,s<0∨(A.f.length:Int)≤s):DFun Try.prog 90 [.sl false 1 l.length (l.map fun x=>D.flat (.int .i64 x)),.clo (.func 91) [] [.ptr (auC A) 0]] (.flat (.bool b)):=by
 rcases h with⟨rfl,h⟩| ⟨rfl,h⟩
 ·have:∃ j:Nat,∃ x,l[j]?=some x∧ ¬ (0≤x∧x<(A.f.length:Int)):=by
   obtain⟨s,hs,h⟩:=h
   obtain⟨j,hj⟩:=List.getElem?_of_mem hs
   exact⟨j,s,hj,by omega⟩
  obtain⟨j,⟨x,h1,h2⟩,h3⟩:=bf_ this
  have hi:=si_ A l hl j x h1 h2 fun i y hij hy=>Classical.byContradiction fun hn=>h3 i hij ⟨y,hy,hn⟩
  clear h1 h2 h3 this h
  rw [d0_] at*
  generalize (l.map fun x=>D.flat (.int .i64 x))=L at*
  refine DFun.enterA Try.func90 Try.ntmps90 ?_
  have e:D.flat (.bool (decide ((0:Int)≤(j:Int))))=D.flat (.bool true):=by rw [decide_eq_true (by omega)]
  refine DW.walk ?_
  exact⟨.inr rfl,ResOk.one [] rfl rfl trivial (Vw.le (Vw.pers rfl) (Le.of_eq (e)))⟩
 ·have hi:=tw_ A l hl fun i y hy=>Classical.byContradiction fun hn=>h ⟨y,List.mem_of_getElem? hy,by omega⟩
  clear h
  rw [d0_] at*
  generalize (l.map fun x=>D.flat (.int .i64 x))=L at*
  refine DFun.enterA Try.func90 Try.ntmps90 ?_
  refine DW.walk ?_
  exact⟨.inr rfl,ResOk.one [] rfl rfl trivial (Vw.pers rfl)⟩
theorem pn_ (k n:Nat) (hk:k≤2) (hn:n≤512):DFun Try.prog 89 [.flat (.int .i64 ((k:Nat):Int)),.flat (.int .i64 ((n:Nat):Int))] (.flat (.int .i64 ((ba_ (k:Int) n:Nat):Int))):=by
 have hw:ba_ (k:Int) n=n ^ k:=by unfold ba_;rw [Int.toNat_natCast]
 rw [hw]
 refine DFun.enterA Try.func89 Try.ntmps89 ?_
 refine DW.walk ?_
 refine DW.loopA (fun i:Nat=>⟨[(1,.flat (.int .i64 ((n:Nat):Int))),(5,.flat (.int .i64 ((n ^ i:Nat):Int))),(6,.flat (.int .i64 ((k:Nat):Int))),(7,.flat (.int .i64 ((i:Nat):Int)))],[]⟩) (fun i=>i≤k) (fun i=>k - i) 0 ?_ (Nat.zero_le _)
 intro i hi
 rcases Nat.lt_or_ge i k with hlt|hge
 ·have hm:IntKind.i64.wrap (((n ^ i:Nat):Int)*(n:Int))=((n ^ (i+1):Nat):Int):=by
   rw [← Int.natCast_mul,← Nat.pow_succ]
   have h1:n ^ (i+1)≤262144:=Nat.le_trans (Nat.pow_le_pow_left hn _) (Nat.le_trans (Nat.pow_le_pow_right (by decide) (show i+1≤2 by omega)) (by decide))
   show IntKind.i64.wrap ((n ^ (i+1):Nat):Int)=((n ^ (i+1):Nat):Int)
   generalize n ^ (i+1)=q at*
   rw [IntKind.wrap_i64];omega
  refine DW.walk ?_
  exact⟨i+1,by omega,by omega,Sub.auto⟩
 ·obtain rfl:i=k:=by omega
  refine DW.walk ?_
  exact⟨.inr rfl,ResOk.one [] rfl rfl trivial (Vw.pers rfl)⟩
end Go.Proofs.Ytichhfbkhnimmaa
