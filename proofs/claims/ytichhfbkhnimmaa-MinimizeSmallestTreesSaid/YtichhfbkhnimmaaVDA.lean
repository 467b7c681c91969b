/- Contracts over data: the reference: Cmp. No condition. -/
import Derived.Test.YtichhfbkhnimmaaVEC4
import Derived.Test.YtichhfbkhnimmaaVMJ
set_option linter.unusedSimpArgs false
set_option linter.unusedVariables false
set_option maxHeartbeats 4000000
set_option maxRecDepth 8000
namespace Go.Proofs.Ytichhfbkhnimmaa
open Go Go.RowKit Go.PP Go.Dm Go.Rt
theorem ok_ : ∀ (n:Nat) (t u:Tr),depT t≤n→TSm t→TSm u→DFun Try.prog 44 [c2_ t,c2_ u] (.flat (.int .i64 (cmpT t u)))
  |0,.node s l,_,h,_,_=>by rw [ax_] at h;omega
  | n + 1, .node s l,.node s' l',h,hs,hs'=>by
    have z1:=ho_ _ (.node s l) (Nat.le_refl _) hs
    have z2:=ho_ _ (.node s' l') (Nat.le_refl _) hs'
    rw [ak_,dg_] at z1 z2
    rw [ax_] at h
    rw [cu_] at hs hs'
    have hs1:=hs.1
    have hs2:=hs'.1
    have ih:=ok_ n
    rw [ak_,ak_,dw_]
    generalize bb_ 1 l=a at*
    generalize bb_ 1 l'=a' at*
    have k1:=op_ a a'
    have k2:=op_ s s'
    have k3:=op_ l.length l'.length
    by_cases h1:cmpI a a'=0
    · rw [if_neg (by simpa using h1)]
      rw [h1] at k1
      by_cases h2:cmpI s s'=0
      · rw [if_neg (by simpa using h2)]
        rw [h2] at k2
        by_cases h3:cmpI l.length l'.length=0
        · rw [if_neg (by simpa using h3)]
          rw [h3] at k3
          have hll:l.length=l'.length:=by have:=b8_.1 h3;omega
          clear h1 h2 h3
          refine DFun.enterA Try.func44 Try.ntmps44 ?_
          refine DW.walk ?_
          clear k1 k2 k3 z1 z2
          refine DW.loopA (fun i:Nat=>⟨[(2,.ref 2 0),(3,.ref 3 0),(8,.flat (.int .i64 (i:Nat)))],[(2,some (.box [.flat (.int .i64 s),.sl false 2 l.length (ae_ l)])),(3,some (.box [.flat (.int .i64 s'),.sl false 2 l'.length (ae_ l')]))]⟩) (fun i=>i≤l.length∧cmpL (l.drop i) (l'.drop i)=cmpL l l') (fun i=>l.length - i) 0 ?_ ⟨Nat.zero_le _,by rw [List.drop_zero,List.drop_zero]⟩
          rintro i ⟨hi,hc⟩
          rcases Nat.lt_or_ge i l.length with hlt|hge
          · obtain⟨k,hk⟩:∃ k,l[i]?=some k:=⟨_,List.getElem?_eq_getElem hlt⟩
            obtain⟨k',hk'⟩:∃ k,l'[i]?=some k:=⟨_,List.getElem?_eq_getElem (by omega)⟩
            have hp:=bk_ hk
            have hp':=bk_ hk'
            have hd:=d5_ hk
            have ihk:=ih k k' (by omega) (TSmL.at hs.2 hk) (TSmL.at hs'.2 hk')
            rw [ez_ hk,ez_ hk',du_] at hc
            clear ih hk hk' hs hs' hd h
            generalize cmpT k k'=z at*
            obtain⟨s1,l1⟩:=k
            obtain⟨s2,l2⟩:=k'
            rw [ak_] at hp hp' ihk
            rw [ak_] at ihk
            by_cases hz:z=0
            · rw [if_neg (by simpa using hz)] at hc
              refine DW.walk ?_
              exact⟨i+1,⟨by omega,hc⟩,by omega,Sub.auto⟩
            · rw [if_pos hz] at hc
              rw [← hc]
              clear hc
              refine DW.walk ?_
              exact⟨.inr rfl,ResOk.one [] rfl rfl trivial (Vw.pers rfl)⟩
          · obtain rfl:i=l.length:=by omega
            rw [List.drop_of_length_le (Nat.le_refl _),fl_] at hc
            rw [← hc]
            clear ih h hs hs' hc
            refine DW.walk ?_
            exact⟨.inr rfl,ResOk.one [] rfl rfl trivial (Vw.pers rfl)⟩
        · rw [if_pos h3]
          generalize cmpI l.length l'.length=c at*
          clear h1 h2 ih h hs hs'
          refine DFun.enterA Try.func44 Try.ntmps44 ?_
          refine DW.walk ?_
          exact⟨.inr rfl,ResOk.one [] rfl rfl trivial (Vw.pers rfl)⟩
      · rw [if_pos h2]
        generalize cmpI s s'=c at*
        clear h1 ih h hs hs' k3
        refine DFun.enterA Try.func44 Try.ntmps44 ?_
        refine DW.walk ?_
        exact⟨.inr rfl,ResOk.one [] rfl rfl trivial (Vw.pers rfl)⟩
    · rw [if_pos h1]
      generalize cmpI a a'=c at*
      clear ih h hs hs' k2 k3
      refine DFun.enterA Try.func44 Try.ntmps44 ?_
      refine DW.walk ?_
      exact⟨.inr rfl,ResOk.one [] rfl rfl trivial (Vw.pers rfl)⟩
end Go.Proofs.Ytichhfbkhnimmaa
namespace Go.Proofs.Ytichhfbkhnimmaa
open Go Go.RowKit Go.PP Go.Dm Go.Rt
theorem aa3 (fn:Fn):Le (.flat (.func fn #[] #[])) (.clo fn [] []):=fun M w G v _ h=>by
 simp only [Rep] at h ⊢
 exact⟨[],[],h,by simp only [RepL],by simp only [RepL]⟩
theorem aar (l l':List Tr) (hs1:l.length*32≤140737488351232) (hll:l.length=l'.length) (ih:∀ (i:Nat) k k',l[i]?=some k→l'[i]?=some k'→DFun Try.prog 83 [c2_ k,c2_ k'] (.flat (.int .i64 (cmpT k k')))):DFun Try.prog 115 [fa_ l,fa_ l',.clo (.func 83) [] []] (.flat (.int .i64 (cmpL l l'))):=by
 refine DFun.enterA Try.func115 Try.ntmps115 ?_
 refine DW.walk ?_
 refine DW.loopA (fun i:Nat=>⟨[(0,.sl false 2 l.length (ae_ l)),(1,.sl false 2 l'.length (ae_ l')),(2,.clo (.func 83) [] []),(11,.sl false 2 l.length (ae_ l)),(12,.flat (.int .i64 (l.length:Nat))),(13,.flat (.int .i64 (i:Nat)))],[]⟩) (fun i=>i≤l.length∧cmpL (l.drop i) (l'.drop i)=cmpL l l') (fun i=>l.length - i) 0 ?_ ⟨Nat.zero_le _,by rw [List.drop_zero,List.drop_zero]⟩
 rintro i ⟨hi,hc⟩
 rcases Nat.lt_or_ge i l.length with hlt|hge
 ·obtain⟨k,hk⟩:∃ k,l[i]?=some k:=⟨_,List.getElem?_eq_getElem hlt⟩
  obtain⟨k',hk'⟩:∃ k,l'[i]?=some k:=⟨_,List.getElem?_eq_getElem (by omega)⟩
  have hp:=bk_ hk
  have hp':=bk_ hk'
  have ihk:=ih i k k' hk hk'
  rw [ez_ hk,ez_ hk',du_] at hc
  clear ih hk hk'
  generalize cmpT k k'=z at*
  obtain⟨s1,l1⟩:=k
  obtain⟨s2,l2⟩:=k'
  rw [ak_] at hp hp' ihk
  rw [ak_] at ihk
  by_cases hz:z=0
  ·rw [if_neg (by simpa using hz)] at hc
   refine DW.walk ?_
   exact⟨i+1,⟨by omega,hc⟩,by omega,Sub.auto⟩
  ·rw [if_pos hz] at hc
   rw [← hc]
   clear hc
   refine DW.walk ?_
   exact⟨.inr rfl,ResOk.one [] rfl rfl trivial (Vw.pers rfl)⟩
 ·obtain rfl:i=l.length:=by omega
  rw [List.drop_of_length_le (Nat.le_refl _),fl_] at hc
  rw [← hc]
  clear ih hc
  refine DW.walk ?_
  exact⟨.inr rfl,ResOk.one [] rfl rfl trivial (Vw.pers rfl)⟩
theorem s4_:∀ (n:Nat) (t u:Tr),depT t≤n→TSm t→TSm u→DFun Try.prog 83 [c2_ t,c2_ u] (.flat (.int .i64 (cmpT t u)))
 |0,.node s l,_,h,_,_=>by rw [ax_] at h;omega
 |n+    1,.node s l,.node s' l',h,hs,hs'=>by
  have z1:=gh_ _ (.node s l) (Nat.le_refl _) hs
  have z2:=gh_ _ (.node s' l') (Nat.le_refl _) hs'
  rw [ak_,dg_] at z1 z2
  rw [ax_] at h
  rw [cu_] at hs hs'
  have hs1:=hs.1
  have hs2:=hs'.1
  have hF:l.length=l'.length→DFun Try.prog 115 [fa_ l,fa_ l',.flat (.func (.func 83) #[] #[])] (.flat (.int .i64 (cmpL l l'))):=fun hll=>
   (aar l l' hs1 hll (fun i k k' hk hk'=>s4_ n k k' (by have:=d5_ hk;omega) (TSmL.at hs.2 hk) (TSmL.at hs'.2 hk'))).le ⟨Le.refl _,Le.refl _,aa3 _,trivial⟩ (Le.refl _)
  rw [ak_,ak_,dw_]
  generalize bb_ 1 l=a at*
  generalize bb_ 1 l'=a' at*
  have k1:=kq_ a a'
  have k2:=kq_ s s'
  have k3:=kq_ l.length l'.length
  have h3:cmpI l.length l'.length=0→l.length=l'.length:=fun h=>by have:=b8_.1 h;omega
  generalize cmpI a a'=c1 at*
  generalize cmpI s s'=c2 at*
  generalize cmpI l.length l'.length=c3 at*
  have k4:=ads c1 c2 c3
  rw [lu_,lu_,lu_] at k4
  have k4:DFun Try.prog 112 [.sl true 1 3 [.flat (.int .i64 c1),.flat (.int .i64 c2),.flat (.int .i64 c3)]] (.flat (.int .i64 (if c1≠0 then c1 else if c2≠0 then c2 else if c3≠0 then c3 else 0))):=k4
  by_cases hz:c1=0∧c2=0∧c3=0
  ·obtain⟨e1,e2,e3⟩:=hz
   have hF:=hF (h3 e3)
   rw [if_neg (by simpa using e1),if_neg (by simpa using e2),if_neg (by simpa using e3)] at k4 ⊢
   generalize cmpL l l'=r at*
   clear h hs hs' h3 e1 e2 e3
   refine DFun.enterA Try.func83 Try.ntmps83 ?_
   refine DW.walk ?_
   exact⟨.inr rfl,ResOk.one [] rfl rfl trivial (Vw.pers rfl)⟩
  ·obtain   ⟨r,hr,h0⟩:∃ r,(if c1≠0 then c1 else if c2≠0 then c2 else if c3≠0 then c3 else 0)=r∧r≠0:=⟨_,rfl,by
        split
        ·assumption
        ·split
         ·assumption
         · split
           ·assumption
           ·omega⟩
   have   hr2:(if c1≠0 then c1 else if c2≠0 then c2 else if c3≠0 then c3 else cmpL l l')=r:=by
        rw [← hr]
        split
        ·rfl
        ·split
         ·rfl
         · split
           ·rfl
           ·omega
   rw [hr2]
   rw [hr] at k4
   clear h hs hs' h3 hF hr hr2 hz
   refine DFun.enterA Try.func83 Try.ntmps83 ?_
   refine DW.walk ?_
   exact⟨.inr rfl,ResOk.one [] rfl rfl trivial (Vw.pers rfl)⟩
end Go.Proofs.Ytichhfbkhnimmaa
namespace Go.Proofs.Ytichhfbkhnimmaa
open Go Go.RowKit Go.PP Go.Dm Go.Rt
theorem bT {p:Prop} [Decidable p] (h:p):D.flat (.bool (decide p))=D.flat (.bool true):=by rw [decide_eq_true h]
theorem bF {p:Prop} [Decidable p] (h:¬ p):D.flat (.bool (decide p))=D.flat (.bool false):=by rw [decide_eq_false h]
theorem eu_ {l:List Int} {i:Nat} {x:Int} (h:l[i]?=some x):partD false 1 (i*1) (l.map fun x=> .flat (.int .i64 x))=some (.flat (.int .i64 x)):=mx_ h
theorem c3_ (l:List Int):persL (l.map fun x=>D.flat (.int .i64 x))=true:=ac_ (fun _=>rfl) l
theorem k7_ {P:Int→Prop}:∀ {r:List Int},(∃ n∈r,P n)→ ∃ j n,r[j]?=some n∧P n∧ ∀ m∈r.take j,¬ P m
  | [],h=>by obtain⟨n,h,_⟩:=h;cases h
  | x :: r,h=>by
    by_cases hx:P x
    ·exact⟨0,x,rfl,hx,fun m hm=>by cases hm⟩
    · obtain⟨n,hn,hp⟩:=h
      rcases List.mem_cons.1 hn with rfl|hn
      ·exact absurd hp hx
      · obtain⟨j,n,h1,h2,h3⟩:=k7_ (r:=r) ⟨n,hn,hp⟩
        exact⟨j+1,n,by simpa using h1,h2,fun m hm=>by
          rcases List.mem_cons.1 (by simpa using hm) with rfl|hm
          ·exact hx
          ·exact h3 m hm⟩
theorem yn_ (n:Int):DFun Try.prog 117 [.flat (.int .i64 n)] (.flat (.bool (decide (n<0∨2<n)))):=by
 by_cases h1:n<0
 ·rw [decide_eq_true (.inl h1)]
  refine DFun.enterA Try.func117 Try.ntmps117 ?_
  refine DW.walk ?_
  exact⟨.inr rfl,ResOk.one [] rfl rfl trivial (Vw.pers rfl)⟩
 ·by_cases h2:2<n
  ·rw [decide_eq_true (.inr h2)]
   refine DFun.enterA Try.func117 Try.ntmps117 ?_
   refine DW.walk ?_
   exact⟨.inr rfl,ResOk.one [] rfl rfl trivial (Vw.le (Vw.pers rfl) (Le.of_eq (bT (show n>2 from h2))))⟩
  ·rw [decide_eq_false (by omega)]
   refine DFun.enterA Try.func117 Try.ntmps117 ?_
   refine DW.walk ?_
   exact⟨.inr rfl,ResOk.one [] rfl rfl trivial (Vw.le (Vw.pers rfl) (Le.of_eq (bF (show ¬ n>2 from h2))))⟩
theorem st_ (r:List Int) (hr:r.length≤1000000000) (j:Nat) (n:Int) (hj:r[j]?=some n) (hp:(n<0∨2<n)) (hno:∀ m∈r.take j,¬ (m<0∨2<m)):DFun Try.prog 130 [.sl false 1 r.length (r.map fun x=> .flat (.int .i64 x)),.clo (.func 117) [] []] (.flat (.int .i64 (j:Nat))):=by
 refine DFun.enterA Try.func130 Try.ntmps130 ?_
 have hjl:=(List.getElem?_eq_some_iff.1 hj).1
 obtain⟨L,hL⟩:∃ L,(r.map fun x=>D.flat (.int .i64 x))=L:=⟨_,rfl⟩
 have hLp:persL L=true:=by rw [← hL];exact c3_ r
 have hpt:∀ (i:Nat) (x:Int),r[i]?=some x→partD false 1 (i*1) L=some (.flat (.int .i64 x)):=fun i x h=>by rw [← hL];exact eu_ h
 rw [hL]
 clear hL
 refine DW.walk ?_
 refine DW.loopA (fun i:Nat=>⟨[(0,.sl false 1 r.length L),(1,.clo (.func 117) [] []),(6,.sl false 1 r.length L),(7,.flat (.int .i64 (r.length:Nat))),(8,.flat (.int .i64 (i:Nat)))],[]⟩) (fun i=>i≤j) (fun i=>j - i) 0 ?_ (Nat.zero_le _)
 intro i hi
 rcases Nat.lt_or_ge i j with hlt|hge
 ·obtain⟨x,hx⟩:∃ x,r[i]?=some x:=⟨_,List.getElem?_eq_getElem (by omega)⟩
  have hxp:=hpt i x hx
  have hnx:¬ (x<0∨2<x):=hno x (List.mem_take_iff_getElem.2 ⟨i,by omega,by rw [List.getElem?_eq_getElem (by omega)] at hx;exact Option.some.inj hx⟩)
  have hb:=yn_ x
  rw [decide_eq_false hnx] at hb
  clear hpt hno hp hj
  refine DW.walk ?_
  exact⟨i+1,by omega,by omega,Sub.auto⟩
 ·obtain rfl:i=j:=by omega
  have hxp:=hpt i n hj
  have hb:=yn_ n
  rw [decide_eq_true hp] at hb
  clear hpt hno
  refine DW.walk ?_
  exact⟨.inr rfl,ResOk.one [] rfl rfl trivial (Vw.pers rfl)⟩
theorem rh_ (r:List Int) (hr:r.length≤1000000000) (hno:∀ m∈r,¬ (m<0∨2<m)):DFun Try.prog 130 [.sl false 1 r.length (r.map fun x=> .flat (.int .i64 x)),.clo (.func 117) [] []] (.flat (.int .i64 (-1))):=by
 refine DFun.enterA Try.func130 Try.ntmps130 ?_
 obtain⟨L,hL⟩:∃ L,(r.map fun x=>D.flat (.int .i64 x))=L:=⟨_,rfl⟩
 have hLp:persL L=true:=by rw [← hL];exact c3_ r
 have hpt:∀ (i:Nat) (x:Int),r[i]?=some x→partD false 1 (i*1) L=some (.flat (.int .i64 x)):=fun i x h=>by rw [← hL];exact eu_ h
 rw [hL]
 clear hL
 refine DW.walk ?_
 refine DW.loopA (fun i:Nat=>⟨[(0,.sl false 1 r.length L),(1,.clo (.func 117) [] []),(6,.sl false 1 r.length L),(7,.flat (.int .i64 (r.length:Nat))),(8,.flat (.int .i64 (i:Nat)))],[]⟩) (fun i=>i≤r.length) (fun i=>r.length - i) 0 ?_ (Nat.zero_le _)
 intro i hi
 rcases Nat.lt_or_ge i r.length with hlt|hge
 ·obtain⟨x,hx⟩:∃ x,r[i]?=some x:=⟨_,List.getElem?_eq_getElem (by omega)⟩
  have hxp:=hpt i x hx
  have hnx:¬ (x<0∨2<x):=hno x (List.mem_of_getElem? hx)
  have hb:=yn_ x
  rw [decide_eq_false hnx] at hb
  clear hpt hno
  refine DW.walk ?_
  exact⟨i+1,by omega,by omega,Sub.auto⟩
 ·obtain rfl:i=r.length:=by omega
  clear hpt hno
  refine DW.walk ?_
  exact⟨.inr rfl,ResOk.one [] rfl rfl trivial (Vw.pers rfl)⟩
theorem rs_ (v:Int) (r:List Int) (hr:r.length≤1000000000) (j:Nat) (n:Int) (hj:r[j]?=some n) (hp:(v=n)) (hno:∀ m∈r.take j,¬ (v=m)):DFun Try.prog 131 [.sl false 1 r.length (r.map fun x=> .flat (.int .i64 x)),.flat (.int .i64 v)] (.flat (.int .i64 (j:Nat))):=by
 refine DFun.enterA Try.func131 Try.ntmps131 ?_
 have hjl:=(List.getElem?_eq_some_iff.1 hj).1
 obtain⟨L,hL⟩:∃ L,(r.map fun x=>D.flat (.int .i64 x))=L:=⟨_,rfl⟩
 have hLp:persL L=true:=by rw [← hL];exact c3_ r
 have hpt:∀ (i:Nat) (x:Int),r[i]?=some x→partD false 1 (i*1) L=some (.flat (.int .i64 x)):=fun i x h=>by rw [← hL];exact eu_ h
 rw [hL]
 clear hL
 refine DW.walk ?_
 refine DW.loopA (fun i:Nat=>⟨[(0,.sl false 1 r.length L),(1,.flat (.int .i64 v)),(6,.sl false 1 r.length L),(7,.flat (.int .i64 (r.length:Nat))),(8,.flat (.int .i64 (i:Nat)))],[]⟩) (fun i=>i≤j) (fun i=>j - i) 0 ?_ (Nat.zero_le _)
 intro i hi
 rcases Nat.lt_or_ge i j with hlt|hge
 ·obtain⟨x,hx⟩:∃ x,r[i]?=some x:=⟨_,List.getElem?_eq_getElem (by omega)⟩
  have hxp:=hpt i x hx
  have hnx:¬ (v=x):=hno x (List.mem_take_iff_getElem.2 ⟨i,by omega,by rw [List.getElem?_eq_getElem (by omega)] at hx;exact Option.some.inj hx⟩)
  have hq:¬ v=x:=hnx
  clear hpt hno hp hj
  refine DW.walk ?_
  exact⟨i+1,by omega,by omega,Sub.auto⟩
 ·obtain rfl:i=j:=by omega
  have hxp:=hpt i n hj
  have hq:v=n:=hp
  clear hpt hno
  refine DW.walk ?_
  exact⟨.inr rfl,ResOk.one [] rfl rfl trivial (Vw.pers rfl)⟩
theorem tx_ (v:Int) (r:List Int) (hr:r.length≤1000000000) (hno:∀ m∈r,¬ (v=m)):DFun Try.prog 131 [.sl false 1 r.length (r.map fun x=> .flat (.int .i64 x)),.flat (.int .i64 v)] (.flat (.int .i64 (-1))):=by
 refine DFun.enterA Try.func131 Try.ntmps131 ?_
 obtain⟨L,hL⟩:∃ L,(r.map fun x=>D.flat (.int .i64 x))=L:=⟨_,rfl⟩
 have hLp:persL L=true:=by rw [← hL];exact c3_ r
 have hpt:∀ (i:Nat) (x:Int),r[i]?=some x→partD false 1 (i*1) L=some (.flat (.int .i64 x)):=fun i x h=>by rw [← hL];exact eu_ h
 rw [hL]
 clear hL
 refine DW.walk ?_
 refine DW.loopA (fun i:Nat=>⟨[(0,.sl false 1 r.length L),(1,.flat (.int .i64 v)),(6,.sl false 1 r.length L),(7,.flat (.int .i64 (r.length:Nat))),(8,.flat (.int .i64 (i:Nat)))],[]⟩) (fun i=>i≤r.length) (fun i=>r.length - i) 0 ?_ (Nat.zero_le _)
 intro i hi
 rcases Nat.lt_or_ge i r.length with hlt|hge
 ·obtain⟨x,hx⟩:∃ x,r[i]?=some x:=⟨_,List.getElem?_eq_getElem (by omega)⟩
  have hxp:=hpt i x hx
  have hnx:¬ (v=x):=hno x (List.mem_of_getElem? hx)
  have hq:¬ v=x:=hnx
  clear hpt hno
  refine DW.walk ?_
  exact⟨i+1,by omega,by omega,Sub.auto⟩
 ·obtain rfl:i=r.length:=by omega
  clear hpt hno
  refine DW.walk ?_
  exact⟨.inr rfl,ResOk.one [] rfl rfl trivial (Vw.pers rfl)⟩
theorem t4_ (fn:Fn):Le (.flat (.func fn #[] #[])) (.clo fn [] []):=fun M w G v _ h=>by
 simp only [Rep] at h ⊢
 exact⟨[],[],h,by simp only [RepL],by simp only [RepL]⟩
open Classical in
theorem yv_ (r:List Int) (hr:r.length≤1000000000):DFun Try.prog 116 [.sl false 1 r.length (r.map fun x=> .flat (.int .i64 x)),.flat (.func (.func 117) #[] #[])] (.flat (.bool (decide (∃ n∈r,n<0∨2<n)))):=by
 by_cases h:∃ n∈r,n<0∨2<n
 ·obtain⟨j,n,h1,h2,h3⟩:=k7_ h
  have hi:=(st_ r hr j n h1 h2 h3).le (args':=[.sl false 1 r.length (r.map fun x=> .flat (.int .i64 x)),.flat (.func (.func 117) #[] #[])]) ⟨Le.refl _,t4_ _,trivial⟩ (Le.refl _)
  rw [decide_eq_true h]
  generalize (r.map fun x=>D.flat (.int .i64 x))=L at*
  clear h1 h2 h3 h
  refine DFun.enterA Try.func116 Try.ntmps116 ?_
  refine DW.walk ?_
  exact⟨.inr rfl,ResOk.one [] rfl rfl trivial (Vw.le (Vw.pers rfl) (Le.of_eq (bT (by omega))))⟩
 ·have hi:=(rh_ r hr (fun m hm hb=>h ⟨m,hm,hb⟩)).le (args':=[.sl false 1 r.length (r.map fun x=> .flat (.int .i64 x)),.flat (.func (.func 117) #[] #[])]) ⟨Le.refl _,t4_ _,trivial⟩ (Le.refl _)
  rw [decide_eq_false h]
  generalize (r.map fun x=>D.flat (.int .i64 x))=L at*
  clear h
  refine DFun.enterA Try.func116 Try.ntmps116 ?_
  refine DW.walk ?_
  exact⟨.inr rfl,ResOk.one [] rfl rfl trivial (Vw.pers rfl)⟩
open Classical in
theorem zf_ (r:List Int) (v:Int) (hr:r.length≤1000000000):DFun Try.prog 118 [.sl false 1 r.length (r.map fun x=> .flat (.int .i64 x)),.flat (.int .i64 v)] (.flat (.bool (decide (v∈r)))):=by
 by_cases h:v∈r
 ·obtain⟨j,n,h1,h2,h3⟩:=k7_ (P:=fun m=>v=m) ⟨v,h,rfl⟩
  have hi:=rs_ v r hr j n h1 h2 h3
  rw [decide_eq_true h]
  generalize (r.map fun x=>D.flat (.int .i64 x))=L at*
  clear h1 h2 h3 h
  refine DFun.enterA Try.func118 Try.ntmps118 ?_
  refine DW.walk ?_
  exact⟨.inr rfl,ResOk.one [] rfl rfl trivial (Vw.le (Vw.pers rfl) (Le.of_eq (bT (by omega))))⟩
 ·have hi:=tx_ v r hr (fun m hm hb=>h (by rw [hb];exact hm))
  rw [decide_eq_false h]
  generalize (r.map fun x=>D.flat (.int .i64 x))=L at*
  clear h
  refine DFun.enterA Try.func118 Try.ntmps118 ?_
  refine DW.walk ?_
  exact⟨.inr rfl,ResOk.one [] rfl rfl trivial (Vw.pers rfl)⟩
theorem md_ (r:List Int) (hr:r.length≤1000000000):DFun Try.prog 88 [.sl false 1 r.length (r.map fun x=> .flat (.int .i64 x))] (.flat (.int .i64 (alphaE r:Nat))):=by
 have h1:=yv_ r hr
 have h2:=zf_ r 0 hr
 unfold alphaE
 generalize (r.map fun x=>D.flat (.int .i64 x))=L at*
 by_cases c1:r.length<1∨4096<r.length
 ·rw [if_pos c1]
  clear h1 h2
  by_cases c2:r.length<1
  ·refine DFun.enterA Try.func88 Try.ntmps88 ?_
   refine DW.walk ?_
   exact⟨.inr rfl,ResOk.one [] rfl rfl trivial (Vw.pers rfl)⟩
  ·have c3:4096<r.length:=by omega
   refine DFun.enterA Try.func88 Try.ntmps88 ?_
   refine DW.walk ?_
   exact⟨.inr rfl,ResOk.one [] rfl rfl trivial (Vw.pers rfl)⟩
 ·rw [if_neg c1]
  have c2:¬ r.length<1:=by omega
  have c3:¬ 4096<r.length:=by omega
  by_cases c4:∃ n∈r,n<0∨2<n
  ·rw [if_pos c4]
   rw [decide_eq_true c4] at h1
   refine DFun.enterA Try.func88 Try.ntmps88 ?_
   refine DW.walk ?_
   exact⟨.inr rfl,ResOk.one [] rfl rfl trivial (Vw.pers rfl)⟩
  ·rw    [if_neg c4]
   rw [decide_eq_false c4] at h1
   by_cases c5:(0:Int)∈r
   ·    rw [if_pos c5]
        rw [decide_eq_true c5] at h2
        refine DFun.enterA Try.func88 Try.ntmps88 ?_
        refine DW.walk ?_
        exact⟨.inr rfl,ResOk.one [] rfl rfl trivial (Vw.pers rfl)⟩
   ·    rw [if_neg c5]
        rw [decide_eq_false c5] at h2
        refine DFun.enterA Try.func88 Try.ntmps88 ?_
        refine DW.walk ?_
        exact⟨.inr rfl,ResOk.one [] rfl rfl trivial (Vw.pers rfl)⟩
theorem sr_ (a:Option Addr) (c:Nat):DFun Try.prog 76 [.flat (.slice a 0 c)] (.sl false 1 0 []):=by
 cases a with
 |none=>
  refine DFun.enterA Try.func76 Try.ntmps76 ?_
  refine DW.walk ?_
  exact⟨.inr rfl,ResOk.one [] rfl rfl trivial (Vw.le (Vw.pers rfl) (Le.nil _ _))⟩
 |some a=>
  refine DFun.enterA Try.func76 Try.ntmps76 ?_
  refine DW.walk ?_
  exact⟨.inr rfl,ResOk.one [] rfl rfl trivial (Vw.pers rfl)⟩
theorem mk_ (r:List Int) (hr:r.length≤1000000000):DFun Try.prog 76 [.sl false 1 r.length (r.map fun x=> .flat (.int .i64 x))] (.sl false 1 r.length (r.map fun x=> .flat (.int .i64 x))):=by
 by_cases h0:r=[]
 ·subst h0
  refine .intro fun M w vals hM hv hgl=>?_
  simp only [RepL] at hv
  obtain⟨u,us,rfl,hu,rfl⟩:=hv
  have hu2:=hu
  simp only [Rep] at hu2
  obtain⟨a,cap,rfl,_⟩:=hu2
  exact (sr_ a cap).go M w [.slice a 0 cap] hM (by simp only [RepL,Rep];exact⟨_,_,rfl,rfl,rfl⟩) hgl
 ·have hl:0<r.length:=List.length_pos_iff.2 h0
  have hp:=c3_ r
  generalize (r.map fun x=>D.flat (.int .i64 x))=L at*
  refine DFun.enterA Try.func76 Try.ntmps76 ?_
  refine DW.walk ?_
  exact⟨.inr rfl,ResOk.one [] rfl rfl trivial (Vw.le (Vw.pers rfl) (Le.of_eq (congrArg (fun k=>D.sl false 1 k L) (Nat.zero_add _))))⟩
end Go.Proofs.Ytichhfbkhnimmaa
namespace Go.Proofs.Ytichhfbkhnimmaa
open Go Go.RowKit Go.PP Go.Dm Go.Rt
theorem rj_ (r :List Int) (hr:r.length≤1000000000):DFun Try.prog 49 [.sl false 1 r.length (r.map fun x=> .flat (.int .i64 x))] (.flat (.int .i64 (alphaE r:Nat))):=by
  have hrp:=c3_ r
  by_cases h1:r.length<1∨4096<r.length
  · have e:alphaE r=2:=by unfold alphaE;rw [if_pos h1]
    rw [e]
    generalize (r.map fun x=>D.flat (.int .i64 x))=LR at*
    refine DFun.enterA Try.func49 Try.ntmps49 ?_
    rcases h1 with h1|h1
    · refine DW.walk ?_
      exact⟨.inr rfl,ResOk.one [] rfl rfl trivial (Vw.pers rfl)⟩
    · refine DW.walk ?_
      exact⟨.inr rfl,ResOk.one [] rfl rfl trivial (Vw.pers rfl)⟩
  · have h2 : 1≤r.length∧r.length≤4096:=by omega
    have h3:=h2.1
    have h4:=h2.2
    refine DFun.enterA Try.func49 Try.ntmps49 ?_
    refine DW.walk ?_
    refine DW.loopA (fun p:Nat × Bool=>⟨[(0,.sl false 1 r.length (r.map fun x=> .flat (.int .i64 x))),(2,.flat (.int .i64 0)),(3,.flat (.bool p.2)),(4,.flat (.int .i64 (p.1:Nat)))],[]⟩) (fun p=>p.1≤r.length∧(∀ m∈r.take p.1,¬ (m<0∨2<m))∧(p.2=true↔(0:Int) ∉ r.take p.1)) (fun p=>r.length - p.1) (0,true) ?_ ⟨Nat.zero_le _,by simp,by simp⟩ (by exact Sub.auto)
    rintro⟨i,b⟩ ⟨hi,hno,hb⟩
    have hi:i≤r.length:=hi
    have hno:∀ m∈r.take i,¬ (m<0∨2<m):=hno
    have hb:b=true↔(0:Int) ∉ r.take i:=hb
    rcases Nat.lt_or_ge i r.length with hlt|hge
    · obtain ⟨k,hk⟩:∃ k,r[i]?=some k:=⟨_,List.getElem?_eq_getElem hlt⟩
      have hp:=eu_ hk
      by_cases hbad:k<0∨2<k
      · have e:alphaE r=3:=by unfold alphaE;rw [if_neg h1,if_pos ⟨k,List.mem_of_getElem? hk,hbad⟩]
        rw [e]
        clear hno hb hk
        generalize (r.map fun x=>D.flat (.int .i64 x))=LR at*
        by_cases hk0:k<0
        · refine DW.walk ?_
          exact⟨.inr rfl,ResOk.one [] rfl rfl trivial (Vw.pers rfl)⟩
        · have hk2:=hbad.resolve_left hk0
          refine DW.walk ?_
          exact⟨.inr rfl,ResOk.one [] rfl rfl trivial (Vw.pers rfl)⟩
      · have hk0:¬ k<0:=fun h=>hbad (.inl h)
        have hk2:¬ 2<k:=fun h=>hbad (.inr h)
        have ht:r.take (i+1)=r.take i++ [k]:=by rw [List.take_add_one,hk];rfl
        have hno':∀ m∈r.take (i+1),¬ (m<0∨2<m):=fun m hm=>by
          rw [ht] at hm
          rcases List.mem_append.1 hm with hm|hm
          ·exact hno m hm
          ·rw [List.mem_singleton.1 hm];exact hbad
        cases b with
        | true =>
          have hb':decide (0<k)=true↔(0:Int) ∉ r.take (i+1):=by
            rw [ht,List.mem_append,List.mem_singleton,decide_eq_true_iff]
            have:=hb.1 rfl
            constructor
            · rintro h (h'|h')
              ·exact this h'
              ·omega
            · intro h
              have:¬ (0:Int)=k:=fun e=>h (.inr e)
              omega
          clear hno hb hk h1 ht hbad
          generalize (r.map fun x=>D.flat (.int .i64 x))=LR at*
          refine DW.walk ?_
          exact⟨(i+1,decide (0<k)),⟨by show i+1≤_;omega,hno',hb'⟩,by show r.length - (i+1)<r.length - i;omega,Sub.auto⟩
        | false=>
          have hb':false=true↔(0:Int) ∉ r.take (i+1):=by
            rw [ht,List.mem_append]
            constructor
            ·intro h;cases h
            · intro h
              exact hb.2 fun h'=>h (.inl h')
          clear hno hb hk h1 ht hbad
          generalize (r.map fun x=>D.flat (.int .i64 x))=LR at*
          refine DW.walk ?_
          exact⟨(i+1,false),⟨by show i+1≤_;omega,hno',hb'⟩,by show r.length - (i+1)<r.length - i;omega,Sub.auto⟩
    · obtain rfl:i=r.length:=by omega
      rw [List.take_length] at hno hb
      have hn3:¬ ∃ n∈r,n<0∨2<n:=fun⟨n,a1,a2⟩=>hno n a1 a2
      cases b with
      | true=>
        have e:alphaE r=9:=by unfold alphaE;rw [if_neg h1,if_neg hn3,if_neg (hb.1 rfl)]
        rw [e]
        clear hno hb hn3
        generalize (r.map fun x=>D.flat (.int .i64 x))=LR at*
        refine DW.walk ?_
        exact⟨.inr rfl,ResOk.one [] rfl rfl trivial (Vw.pers rfl)⟩
      | false=>
        have e:alphaE r=0:=by
          unfold alphaE
          rw [if_neg h1,if_neg hn3,if_pos]
          by_cases h:(0:Int)∈r
          ·exact h
          · have:=hb.2 h
            cases this
        rw [e]
        clear hno hb hn3
        generalize (r.map fun x=>D.flat (.int .i64 x))=LR at*
        refine DW.walk ?_
        exact⟨.inr rfl,ResOk.one [] rfl rfl trivial (Vw.pers rfl)⟩
end Go.Proofs.Ytichhfbkhnimmaa
namespace Go.Proofs.Ytichhfbkhnimmaa
open Go Go.RowKit Go.PP Go.Dm Go.Rt
theorem ob_ (r:List Int) (s:Int) (l:List Tr):nodesE r (.node s l)=if s<0∨(r.length:Int)≤s then 6 else if (l.length:Int)≠r.getD s.toNat 0 then 3 else bf_ r l:=by rw [nodesE]
theorem q1_ (r:List Int):bf_ r []=0:=by rw [bf_]
theorem n7_ (r:List Int) (t:Tr) (ts:List Tr):bf_ r (t::ts)=if nodesE r t≠0 then nodesE r t else bf_ r ts:=by rw [bf_]
end Go.Proofs.Ytichhfbkhnimmaa
namespace Go.Proofs.Ytichhfbkhnimmaa
open Go Go.RowKit Go.PP Go.Dm Go.Rt
theorem ki_ (r:List Int) (hr:r.length≤1000000000):∀ (n:Nat) (t:Tr),depT t≤n→TSm t→DFun Try.prog 109 [.sl false 1 r.length (r.map fun x=> .flat (.int .i64 x)),c2_ t] (.flat (.int .i64 (nodesE r t:Nat)))
  |0,.node s l,h,_=>by rw [ax_] at h;omega
  | n + 1, .node s l,h,hs=>by
    rw [ax_] at h
    rw [cu_] at hs
    have hs1:=hs.1
    have ih:=ki_ r hr n
    have hrp:=c3_ r
    rw [ak_,ob_]
    by_cases h6:s<0∨(r.length:Int)≤s
    · rw [if_pos h6]
      clear ih hs h
      generalize (r.map fun x=>D.flat (.int .i64 x))=LR at*
      refine DFun.enterA Try.func109 Try.ntmps109 ?_
      by_cases h0:s<0
      · refine DW.walk ?_
        exact⟨.inr rfl,ResOk.one [] rfl rfl trivial (Vw.pers rfl)⟩
      · have h1:=h6.resolve_left h0
        refine DW.walk ?_
        exact⟨.inr rfl,ResOk.one [] rfl rfl trivial (Vw.pers rfl)⟩
    · rw [if_neg h6]
      have h0:¬ s<0:=fun e=>h6 (.inl e)
      have h1:s<(r.length:Int):=by omega
      obtain⟨k,hk⟩:∃ k,r[s.toNat]?=some k:=⟨_,List.getElem?_eq_getElem (by omega)⟩
      have hkd:r.getD s.toNat 0=k:=by rw [List.getD_eq_getElem?_getD,hk];rfl
      have hp:=eu_ hk
      rw [hkd]
      by_cases h3:(l.length:Int)≠k
      · rw [if_pos h3]
        clear ih hs h hk hkd h6
        generalize (r.map fun x=>D.flat (.int .i64 x))=LR at*
        refine DFun.enterA Try.func109 Try.ntmps109 ?_
        refine DW.walk ?_
        exact⟨.inr rfl,ResOk.one [] rfl rfl trivial (Vw.pers rfl)⟩
      · rw [if_neg h3]
        have h3:(l.length:Int)=k:=by omega
        clear hk hkd h6
        obtain⟨X,hX⟩:∃ X,bf_ r l=X:=⟨_,rfl⟩
        rw [hX]
        refine DFun.enterA Try.func109 Try.ntmps109 ?_
        refine DW.walk ?_
        refine DW.loopA (fun i:Nat=>⟨[(0,.sl false 1 r.length (r.map fun x=> .flat (.int .i64 x))),(3,.ref 3 0),(4,.flat (.int .i64 0)),(30,fa_ l),(31,.flat (.int .i64 (l.length:Nat))),(32,.flat (.int .i64 (i:Nat)))],[(3,some (.box [.flat (.int .i64 s),fa_ l]))]⟩) (fun i=>i≤l.length∧bf_ r (l.drop i)=X) (fun i=>l.length - i) 0 ?_ ⟨Nat.zero_le _,by rw [List.drop_zero];exact hX⟩ (by exact Sub.auto)
        rintro i ⟨hi,hx⟩
        rcases Nat.lt_or_ge i l.length with hlt|hge
        · obtain⟨k2,hk2⟩:∃ k2,l[i]?=some k2:=⟨_,List.getElem?_eq_getElem hlt⟩
          have hp2:=bk_ hk2
          have hd:=d5_ hk2
          have hks:=TSmL.at hs.2 hk2
          have ihk:=ih k2 (by omega) hks
          rw [ez_ hk2,n7_] at hx
          clear ih hk2 hs hks hd h hX
          by_cases hz:nodesE r k2≠0
          · rw [if_pos hz] at hx
            rw [hx] at ihk hz
            obtain⟨s',l'⟩:=k2
            rw [ak_] at hp2 ihk
            clear hx
            generalize (r.map fun x=>D.flat (.int .i64 x))=LR at*
            refine DW.walk ?_
            exact⟨.inr rfl,ResOk.one [] rfl rfl trivial (Vw.pers rfl)⟩
          · rw [if_neg hz] at hx
            have hz:nodesE r k2=0:=by omega
            rw [hz] at ihk
            obtain⟨s',l'⟩:=k2
            rw [ak_] at hp2 ihk
            generalize (r.map fun x=>D.flat (.int .i64 x))=LR at*
            refine DW.walk ?_
            exact⟨i+1,⟨by omega,hx⟩,by omega,Sub.auto⟩
        · obtain rfl:i=l.length:=by omega
          rw [List.drop_of_length_le (Nat.le_refl _),q1_] at hx
          subst hx
          clear ih h hs hX
          generalize (r.map fun x=>D.flat (.int .i64 x))=LR at*
          refine DW.walk ?_
          exact⟨.inr rfl,ResOk.one [] rfl rfl trivial (Vw.pers rfl)⟩
end Go.Proofs.Ytichhfbkhnimmaa
namespace Go.Proofs.Ytichhfbkhnimmaa
open Go Go.RowKit Go.PP Go.Dm Go.Rt
theorem qg_ (t:Tr) (ts:TSm t):DFun Try.prog 108 [c2_ t] (.flat (.int .i64 (if 4096<fu_ t then 2 else if 256<fo_ t then 16 else 0))):=by
 have h1:=gh_ _ t (Nat.le_refl _) ts
 have h2:=ms_ _ t (Nat.le_refl _) ts
 generalize fu_ t=x at*
 generalize fo_ t=y at*
 obtain⟨s,l⟩:=t
 rw [ak_] at*
 clear ts
 refine DFun.enterA Try.func108 Try.ntmps108 ?_
 by_cases hx:4096<x
 ·rw [if_pos hx]
  refine DW.walk ?_
  exact⟨.inr rfl,ResOk.one [] rfl rfl trivial (Vw.pers rfl)⟩
 ·rw [if_neg hx]
  by_cases hy:256<y
  ·rw [if_pos hy]
   refine DW.walk ?_
   exact⟨.inr rfl,ResOk.one [] rfl rfl trivial (Vw.pers rfl)⟩
  ·rw [if_neg hy]
   refine DW.walk ?_
   exact⟨.inr rfl,ResOk.one [] rfl rfl trivial (Vw.pers rfl)⟩
theorem xa_ (r:List Int) (hr:r.length≤1000000000) (t:Tr) (ts:TSm t):DFun Try.prog 74 [.sl false 1 r.length (r.map fun x=> .flat (.int .i64 x)),c2_ t] (.flat (.int .i64 (rightE r t:Nat))):=by
 have hc:=md_ r hr
 have hrp:=c3_ r
 have hn:=ki_ r hr _ t (Nat.le_refl _) ts
 have h42:=qg_ t ts
 unfold rightE
 generalize alphaE r=c at*
 generalize nodesE r t=e at*
 generalize fu_ t=x at*
 generalize fo_ t=y at*
 obtain⟨s,l⟩:=t
 rw [ak_] at*
 clear ts
 generalize (r.map fun x=>D.flat (.int .i64 x))=LR at*
 by_cases h1:c≠0
 ·rw [if_pos h1]
  clear hn
  refine DFun.enterA Try.func74 Try.ntmps74 ?_
  refine DW.walk ?_
  exact⟨.inr rfl,ResOk.one [] rfl rfl trivial (Vw.pers rfl)⟩
 ·rw [if_neg h1]
  have h1:c=0:=by omega
  subst h1
  by_cases hx:4096<x
  ·simp only [if_pos hx] at*
   refine DFun.enterA Try.func74 Try.ntmps74 ?_
   refine DW.walk ?_
   exact⟨.inr rfl,ResOk.one [] rfl rfl trivial (Vw.pers rfl)⟩
  ·simp  only [if_neg hx] at*
   by_cases hy:256<y
   ·    simp only [if_pos hy] at*
        refine DFun.enterA Try.func74 Try.ntmps74 ?_
        refine DW.walk ?_
        exact⟨.inr rfl,ResOk.one [] rfl rfl trivial (Vw.pers rfl)⟩
   ·    simp only [if_neg hy] at*
        refine DFun.enterA Try.func74 Try.ntmps74 ?_
        refine DW.walk ?_
        exact⟨.inr rfl,ResOk.one [] rfl rfl trivial (Vw.pers rfl)⟩
end Go.Proofs.Ytichhfbkhnimmaa
set_option linter.unusedSectionVars false
set_option maxHeartbeats 400000
namespace Go.Mn
open Go Go.RowKit Go.PP Go.Dm Go.Rt
variable [GlobW]
abbrev xf_ (l:List Int):D:= .sl false 1 l.length (l.map fun x=>D.flat (.int .i64 x))
abbrev wl_ (l:List Bool):D:= .sl false 1 l.length (l.map fun x=>D.flat (.bool x))
abbrev aj_ (t:List (List Int)):List D:=t.map fun r=>D.sl false 1 r.length (r.map fun x=>D.flat (.int .i64 x))
abbrev aaj (t:List (List Int)):D:= .sl false 1 t.length (aj_ t)
def auC (A:Au):List D:=[xf_ A.r,wl_ A.f,aaj A.to]
def auD (A:Au):D:= .agg (auC A)
theorem mf_ (rs:List Int) (fs:List Bool) (tt:List (List Int)):auC ⟨rs,fs,tt⟩=[.sl false 1 rs.length (rs.map fun x=>D.flat (.int .i64 x)),.sl false 1 fs.length (fs.map fun x=>D.flat (.bool x)),.sl false 1 tt.length (aj_ tt)]:=rfl
theorem e3_ (rs:List Int) (fs:List Bool) (tt:List (List Int)):auD ⟨rs,fs,tt⟩= .agg [.sl false 1 rs.length (rs.map fun x=>D.flat (.int .i64 x)),.sl false 1 fs.length (fs.map fun x=>D.flat (.bool x)),.sl false 1 tt.length (aj_ tt)]:=rfl
theorem a1_ (A:Au):auD A= .agg [.sl false 1 A.r.length (A.r.map fun x=>D.flat (.int .i64 x)),.sl false 1 A.f.length (A.f.map fun x=>D.flat (.bool x)),.sl false 1 A.to.length (aj_ A.to)]:=rfl
theorem d1_ (A:Au):auC A=[.sl false 1 A.r.length (A.r.map fun x=>D.flat (.int .i64 x)),.sl false 1 A.f.length (A.f.map fun x=>D.flat (.bool x)),.sl false 1 A.to.length (aj_ A.to)]:=rfl
theorem ef_ {l:List Bool} {i:Nat} {x:Bool} (h:l[i]?=some x):partD false 1 (i*1) (l.map fun x=>D.flat (.bool x))=some (.flat (.bool x)):=by
 unfold partD
 rw [if_neg (by decide),Nat.mul_one,List.getElem?_map,h];rfl
theorem an_ {l:List Int} {i:Nat} {x:Int} (h:l[i]?=some x):partD false 1 (i*1) (l.map fun x=>D.flat (.int .i64 x))=some (.flat (.int .i64 x)):=by
 unfold partD
 rw [if_neg (by decide),Nat.mul_one,List.getElem?_map,h];rfl
theorem dc_ {t:List (List Int)} {i:Nat} {r:List Int} (h:t[i]?=some r):partD false 1 (i*1) (aj_ t)=some (.sl false 1 r.length (r.map fun x=>D.flat (.int .i64 x))):=by
 unfold partD
 rw [if_neg (by decide),Nat.mul_one,List.getElem?_map,h];rfl
theorem ab_ (l:List Int):persL (l.map fun x=>D.flat (.int .i64 x))=true:=ac_ (fun _=>rfl) l
theorem al_ (l:List Bool):persL (l.map fun x=>D.flat (.bool x))=true:=ac_ (fun _=>rfl) l
theorem ao_ (t:List (List Int)):persL (aj_ t)=true:=ac_ (fun _=>rfl) t
open Classical in
theorem dz_ {P:Nat→Prop} (h:∃ i,P i):∃ i,P i∧ ∀ j,j<i→ ¬ P j:=by
 obtain⟨i,hi⟩:=h
 induction i using Nat.strongRecOn with
 |_ i ih=>
  by_cases hj:∃ j,j<i∧P j
  · obtain⟨j,h1,h2⟩:=hj
    exact ih j h1 h2
  ·exact⟨i,hi,fun j h1 h2=>hj ⟨j,h1,h2⟩⟩
end Go.Mn
