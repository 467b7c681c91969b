/- The reference: steps. No condition. -/
import Derived.Test.YtichhfbkhnimmaaYPR2
set_option linter.unusedSimpArgs false
set_option linter.unusedVariables false
set_option maxHeartbeats 4000000
set_option maxRecDepth 8000
namespace Go.Proofs.Ytichhfbkhnimmaa
open Go Go.RowKit Go.PP Go.Dm Go.Rt Go.Mn
theorem fk_ (A : Au) (hok:AuOk A):DFun Try.prog 57 [auD A] (.sl false 3 (ab_ A).length (spC (ab_ A))):=by
  have hf:=ir_ A hok
  have hnd:=gn_ hok
  have hrg:=(bn_ hok (A.f.length+1)).rng
  have hfl:=(bn_ hok (A.f.length+1)).len
  rw [show ar_ A (A.f.length+1)=ac_ A from rfl] at hrg hfl
  have hn:=hok.hi
  have hrl:=hok.alpha.hi
  have hpr:∀ (i:Nat) (x:Int),A.r[i]?=some x→partD false 1 (i*1) (A.r.map fun x=>D.flat (.int .i64 x))=some (.flat (.int .i64 x)):=fun i x h=>as_ h
  have hpf:∀ (i:Nat) (x:Int),(ac_ A)[i]?=some x→partD false 1 (i*1) ((ac_ A).map fun x=>D.flat (.int .i64 x))=some (.flat (.int .i64 x)):=fun i x h=>as_ h
  have hrk:∀ (i:Nat) (x:Int),A.r[i]?=some x→ ∃ m:Nat,x=(m:Int)∧m≤2:=fun i x h=>h0_ hok h
  have hsS:∀ (i:Nat) (x:Int),A.r[i]?=some x→ej_ A i=if x=1 then [⟨i,0, -1⟩] else if x=2 then stW A i 2 else []:=fun i x h=>by
    unfold ej_ stW
    simp [List.getD,h]
  have hQl:=dp_ A hn
  have hWl:=fun i w=>lr_ A i w
  have hOl:=fun i w o=>o1_ A i w o
  have hQs:=md_ A
  have hWs:=fun i w=>mf_ A i w
  have hOs:=fun i w o=>qb_ A i w o
  have hst:ab_ A=stQ A A.r.length:=rfl
  rw [hst]
  have hQ0:stQ A 0=[]:=rfl
  have hW0:∀ i,stW A i 0=[]:=fun _=>rfl
  have hO0:∀ i w,stO A i w 0=[]:=fun _ _=>rfl
  have q1:=ad_ A.r
  have q2:=ai_ A.f
  have q3:=al_ A.to
  have q4:=ad_ (ac_ A)
  rw [au_] at*
  clear hst
  generalize ((ac_ A).map fun x=>D.flat (.int .i64 x))=FU at*
  generalize ac_ A=F at*
  generalize (A.r.map fun x=>D.flat (.int .i64 x))=LR at*
  generalize (A.f.map fun x=>D.flat (.bool x))=LB at*
  generalize ag_ A.to=LT at*
  generalize stQ A=Q at*
  generalize stW A=W at*
  generalize stO A=O at*
  generalize ej_ A=S at*
  generalize hrle:A.r.length=rl at*
  generalize A.f.length=n at*
  generalize A.to.length=ta at*
  clear hok
  refine DFun.enterA Try.func57 Try.ntmps57 ?_
  refine DW.walkTo 3 ?_
  refine DW.adopt 4 109 52 3 rfl rfl ?_
  refine DW.walk ?_
  refine DW.loopA (fun s:Nat=>⟨[(1,.ref 1 0),(3,.sl false 1 F.length FU),(4,.own 109 (Q s).length),(5,.flat (.int .i64 ((s:Nat):Int)))],[(1,some (.box [.sl false 1 rl LR,.sl false 1 n LB,.sl false 1 ta LT])),(109,some (.row 52 3 (Q s).length (spC (Q s))))]⟩) (fun s=>s≤rl) (fun s=>rl - s) 0 ?_ (Nat.zero_le _) (by rw [hQ0];exact Sub.auto)
  intro s hs
  rcases Nat.lt_or_ge s rl with hsl|hsg
  · obtain ⟨x, hx⟩:∃ x,A.r[s]?=some x:=⟨A.r[s]'(by omega),by simp⟩
    obtain⟨m,rfl,hm2⟩:=hrk s x hx
    have hp:=hpr s _ hx
    have hss:=hsS s _ hx
    have hqs:=hQs s
    have hql:=hQl s
    have hq1:=ao_ (Q s)
    have hq2:=ao_ (Q (s+1))
    rcases (show m=0∨m=1∨m=2 by omega) with rfl|rfl|rfl
    · rw [if_neg (by decide),if_neg (by decide)] at hss
      rw [hss,List.append_nil] at hqs
      clear hpr hrk hsS hQl hWl hOl hQs hWs hOs hQ0 hW0 hO0 hpf hnd hrg
      refine DW.walk ?_
      refine DW.loopA (fun _:Unit=>⟨[(1,.ref 1 0),(3,.sl false 1 F.length FU),(4,.own 109 (Q s).length),(5,.flat (.int .i64 ((s:Nat):Int))),(6,.flat (.int .i64 ((0:Nat):Int)))],[(1,some (.box [.sl false 1 rl LR,.sl false 1 n LB,.sl false 1 ta LT])),(109,some (.row 52 3 (Q s).length (spC (Q s))))]⟩) (fun _=>True) (fun _=>0) () ?_ trivial
      intro _ _
      refine DW.walk ?_
      exact⟨s+1,by omega,by omega,by rw [hqs];exact Sub.auto⟩
    · rw [if_pos (by decide)] at hss
      rw [hss] at hqs
      have hsn:=gp_ (Q s) ⟨s,0, -1⟩
      rw [← hqs] at hsn
      have hql2:(Q (s+1)).length=(Q s).length+1:=by rw [hqs];simp
      clear hpr hrk hsS hQl hWl hOl hQs hWs hOs hQ0 hW0 hO0 hpf hnd hrg hqs
      refine DW.walk ?_
      refine DW.loopA (fun b:Bool=>if b then⟨[(1,.ref 1 0),(3,.sl false 1 F.length FU),(4,.own 109 (Q (s+1)).length),(5,.flat (.int .i64 ((s:Nat):Int))),(6,.flat (.int .i64 ((1:Nat):Int)))],[(1,some (.box [.sl false 1 rl LR,.sl false 1 n LB,.sl false 1 ta LT])),(109,some (.row 52 3 (Q (s+1)).length (spC (Q (s+1)))))]⟩ else⟨[(1,.ref 1 0),(3,.sl false 1 F.length FU),(4,.own 109 (Q s).length),(5,.flat (.int .i64 ((s:Nat):Int))),(6,.flat (.int .i64 ((0:Nat):Int)))],[(1,some (.box [.sl false 1 rl LR,.sl false 1 n LB,.sl false 1 ta LT])),(109,some (.row 52 3 (Q s).length (spC (Q s))))]⟩) (fun _=>True) (fun b=>if b then 0 else 1) false ?_ trivial
      intro b _
      cases b with
      | false=>
        show DW _ _ _ ⟨[(1,.ref 1 0),(3,.sl false 1 F.length FU),(4,.own 109 (Q s).length),(5,.flat (.int .i64 ((s:Nat):Int))),(6,.flat (.int .i64 ((0:Nat):Int)))],[(1,some (.box [.sl false 1 rl LR,.sl false 1 n LB,.sl false 1 ta LT])),(109,some (.row 52 3 (Q s).length (spC (Q s))))]⟩ _
        generalize hX1:spC (Q (s+1))=X1 at*
        generalize spC (Q s)=X0 at*
        refine DW.walk ?_
        rw [← hsn]
        exact⟨true,trivial,by decide,by show Sub _ _ ⟨[(1,.ref 1 0),(3,.sl false 1 F.length FU),(4,.own 109 (Q (s+1)).length),(5,.flat (.int .i64 ((s:Nat):Int))),(6,.flat (.int .i64 ((1:Nat):Int)))],[(1,some (.box [.sl false 1 rl LR,.sl false 1 n LB,.sl false 1 ta LT])),(109,some (.row 52 3 (Q (s+1)).length (X1)))]⟩;rw [hql2];exact Sub.auto⟩
      | true=>
        show DW _ _ _ ⟨[(1,.ref 1 0),(3,.sl false 1 F.length FU),(4,.own 109 (Q (s+1)).length),(5,.flat (.int .i64 ((s:Nat):Int))),(6,.flat (.int .i64 ((1:Nat):Int)))],[(1,some (.box [.sl false 1 rl LR,.sl false 1 n LB,.sl false 1 ta LT])),(109,some (.row 52 3 (Q (s+1)).length (spC (Q (s+1)))))]⟩ _
        refine DW.walk ?_
        exact⟨s+1,by omega,by omega,Sub.auto⟩
    · rw [if_neg (by decide),if_pos (by decide)] at hss
      rw [hss] at hqs
      clear hpr hrk hsS hQl hQs hQ0
      refine DW.walk ?_
      refine DW.loopA (fun w:Nat=>⟨[(1,.ref 1 0),(3,.sl false 1 F.length FU),(4,.own 109 (Q s++W s w).length),(5,.flat (.int .i64 ((s:Nat):Int))),(6,.flat (.int .i64 ((w:Nat):Int)))],[(1,some (.box [.sl false 1 rl LR,.sl false 1 n LB,.sl false 1 ta LT])),(109,some (.row 52 3 (Q s++W s w).length (spC (Q s++W s w))))]⟩) (fun w=>w≤2) (fun w=>2 - w) 0 ?_ (Nat.zero_le _) (by rw [hW0,List.append_nil];exact Sub.auto)
      intro w hw
      have hwl:=hWl s w
      have hq3:=ao_ (Q s++W s w)
      rcases Nat.lt_or_ge w 2 with hwlt|hwge
      · refine DW.walk ?_
        refine DW.loopA (fun o:Nat=>⟨[(1,.ref 1 0),(3,.sl false 1 F.length FU),(4,.own 109 (Q s++W s w++O s w o).length),(5,.flat (.int .i64 ((s:Nat):Int))),(6,.flat (.int .i64 ((w:Nat):Int))),(7,.flat (.int .i64 ((o:Nat):Int)))],[(1,some (.box [.sl false 1 rl LR,.sl false 1 n LB,.sl false 1 ta LT])),(109,some (.row 52 3 (Q s++W s w++O s w o).length (spC (Q s++W s w++O s w o))))]⟩) (fun o=>o≤n) (fun o=>n - o) 0 ?_ (Nat.zero_le _) (by rw [hO0,List.append_nil];exact Sub.auto)
        intro o ho
        have hol:=hOl s w o
        have hos:=hOs s w o
        have hws:=hWs s w
        have hq4:=ao_ (Q s++W s w++O s w o)
        rcases Nat.lt_or_ge o n with holt|hoge
        · have hz:(if ((o:Nat):Int)∈F.take 0 then Q s++W s w++O s w o++ [⟨s,w,o⟩] else Q s++W s w++O s w o)=Q s++W s w++O s w o:=by simp
          have hlb:(Q s++W s w++O s w o).length≤s*1024+2000:=by simp only [List.length_append];have:w*n≤1*512:=Nat.mul_le_mul (by omega) hn;omega
          have hfin:(if ((o:Nat):Int)∈F.take F.length then Q s++W s w++O s w o++ [⟨s,w,o⟩] else Q s++W s w++O s w o)=Q s++W s w++O s w (o+1):=by
            rw [List.take_length,hos]
            split <;> simp [List.append_assoc]
          refine DW.walk ?_
          refine DW.loopA (fun k:Nat=>⟨[(1,.ref 1 0),(3,.sl false 1 F.length FU),(4,.own 109 (if ((o:Nat):Int)∈F.take k then Q s++W s w++O s w o++ [⟨s,w,o⟩] else Q s++W s w++O s w o).length),(5,.flat (.int .i64 ((s:Nat):Int))),(6,.flat (.int .i64 ((w:Nat):Int))),(7,.flat (.int .i64 ((o:Nat):Int))),(8,.flat (.int .i64 ((k:Nat):Int)))],[(1,some (.box [.sl false 1 rl LR,.sl false 1 n LB,.sl false 1 ta LT])),(109,some (.row 52 3 (if ((o:Nat):Int)∈F.take k then Q s++W s w++O s w o++ [⟨s,w,o⟩] else Q s++W s w++O s w o).length (spC (if ((o:Nat):Int)∈F.take k then Q s++W s w++O s w o++ [⟨s,w,o⟩] else Q s++W s w++O s w o))))]⟩) (fun k=>k≤F.length) (fun k=>F.length - k) 0 ?_ (Nat.zero_le _) (by rw [hz];exact Sub.auto)
          intro k hk
          rcases Nat.lt_or_ge k F.length with hkl|hkg
          · obtain⟨y,hy⟩:∃ y,F[k]?=some y:=⟨F[k],by simp⟩
            have hyp:=hpf k y hy
            have hno:y ∉ F.take k:=fun h=>by
              obtain⟨j,hj,hj2⟩:=List.mem_take_iff_getElem.1 h
              have h1:=(List.getElem?_eq_some_iff.1 hy).2
              exact absurd (hj2.trans h1.symm) (List.pairwise_iff_getElem.1 hnd j k (by omega) hkl (by omega))
            have hmem:∀ z,z∈F.take (k+1)↔z∈F.take k∨z=y:=fun z=>by rw [List.take_add_one,hy];simp
            by_cases he:y=(o:Int)
            · subst he
              have e0:(if ((o:Nat):Int)∈F.take k then Q s++W s w++O s w o++ [⟨s,w,o⟩] else Q s++W s w++O s w o)=Q s++W s w++O s w o:=if_neg hno
              have e1:(if ((o:Nat):Int)∈F.take (k+1) then Q s++W s w++O s w o++ [⟨s,w,o⟩] else Q s++W s w++O s w o)=Q s++W s w++O s w o++ [⟨s,w,o⟩]:=if_pos ((hmem _).2 (.inr rfl))
              have hsn:=gp_ (Q s++W s w++O s w o) ⟨s,w,o⟩
              have hll:(Q s++W s w++O s w o++ [(⟨s,w,o⟩:Sp)]).length=(Q s++W s w++O s w o).length+1:=by simp only [List.length_append,List.length_singleton]
              have hq5:=ao_ (Q s++W s w++O s w o++ [⟨s,w,o⟩])
              rw [e0]
              generalize hX1:Q s++W s w++O s w o++ [(⟨s,w,o⟩:Sp)]=X1 at*
              generalize Q s++W s w++O s w o=X0 at*
              generalize hY1:spC X1=Y1 at*
              generalize spC X0=Y0 at*
              clear hpf hWl hOl hWs hOs hW0 hO0 hws hos hss hqs hmem hno hfin hz hnd hrg hy
              refine DW.walk ?_
              rw [← hsn]
              exact⟨k+1,by omega,by omega,by rw [e1,hll,hY1];exact Sub.auto⟩
            · have e1:(if ((o:Nat):Int)∈F.take (k+1) then Q s++W s w++O s w o++ [⟨s,w,o⟩] else Q s++W s w++O s w o)=(if ((o:Nat):Int)∈F.take k then Q s++W s w++O s w o++ [⟨s,w,o⟩] else Q s++W s w++O s w o):=by
                by_cases h:(o:Int)∈F.take k
                ·rw [if_pos h,if_pos ((hmem _).2 (.inl h))]
                ·rw [if_neg h,if_neg (fun q=>((hmem _).1 q).elim h (fun q=>he q.symm))]
              have hq5:=ao_ (if ((o:Nat):Int)∈F.take k then Q s++W s w++O s w o++ [⟨s,w,o⟩] else Q s++W s w++O s w o)
              generalize hX0:(if ((o:Nat):Int)∈F.take k then Q s++W s w++O s w o++ [⟨s,w,o⟩] else Q s++W s w++O s w o)=X0 at*
              generalize hY0:spC X0=Y0 at*
              clear hpf hWl hOl hWs hOs hW0 hO0 hws hos hss hqs hmem hno hfin hz hnd hrg hy
              refine DW.walk ?_
              exact⟨k+1,by omega,by omega,by rw [e1,hY0];exact Sub.auto⟩
          · obtain rfl:k=F.length:=by omega
            rw [hfin]
            have hq5:=ao_ (Q s++W s w++O s w (o+1))
            generalize hX1:Q s++W s w++O s w (o+1)=X1 at*
            clear hpf hWl hOl hWs hOs hW0 hO0 hws hos hss hqs hfin hz hnd hrg
            refine DW.walk ?_
            exact⟨o+1,by omega,by omega,by rw [hX1];exact Sub.auto⟩
        · obtain rfl:o=n:=by omega
          have hcat:Q s++W s w++O s w o=Q s++W s (w+1):=by rw [hws,List.append_assoc]
          rw [hcat]
          rw [hcat] at hq4
          generalize hX1:Q s++W s (w+1)=X1 at*
          clear hpf hWl hOl hWs hOs hW0 hO0 hws hos hss hqs hnd hrg
          refine DW.walk ?_
          exact⟨w+1,by omega,by omega,by rw [hX1];exact Sub.auto⟩
      · obtain rfl:w=2:=by omega
        rw [← hqs]
        rw [← hqs] at hq3
        clear hpf hWl hOl hWs hOs hW0 hO0 hss hqs hnd hrg
        refine DW.walk ?_
        exact⟨s+1,by omega,by omega,Sub.auto⟩
  · obtain rfl:s=rl:=by omega
    have hq1:=ao_ (Q s)
    clear hpf hWl hOl hWs hOs hW0 hO0 hpr hrk hsS hQl hQs hQ0 hnd hrg
    refine DW.walk ?_
    exact⟨.inr rfl,ResOk.one [(109,some (.row 52 3 (Q s).length (spC (Q s))))] rfl rfl ⟨rfl,trivial⟩ (Vw.own (.head _) (VwL.pers hq1))⟩
noncomputable abbrev ap_:Code:=Try.f51.body.getD .skip
def mrow (M:Nat→Nat→Int) (n p:Nat):List D:=(List.range n).map fun q=>D.flat (.int .i64 (M p q))
theorem aa_ (M:Nat→Nat→Int) (n p:Nat):persL (mrow M n p)=true:=af_ (fun _=>rfl) _
theorem a6_ (M:Nat→Nat→Int) (n p:Nat):(mrow M n p).length=n:=by simp [mrow]
theorem bg_ {M:Nat→Nat→Int} {n p q:Nat} (h:q<n):partD false 1 (q*1) (mrow M n p)=some (.flat (.int .i64 (M p q))):=fe_ (l:=List.range n) (by rw [List.getElem?_range h])
def setM (M:Nat→Nat→Int) (p q:Nat) (v:Int):Nat→Nat→Int:=fun i j=>if i=p∧j=q then v else M i j
theorem a8_ (M:Nat→Nat→Int) {n p q:Nat} (v:Int) (h:q<n):List.take (q*1) (mrow M n p)++ [.flat (.int .i64 v)]++List.drop (q*1+1) (mrow M n p)=mrow (setM M p q v) n p:=by
 have h1:=bk_ (cs:=mrow M n p) (i:=q) (x:= .flat (.int .i64 v)) (by rw [a6_];exact h)
 unfold spliceD at h1
 rw [Nat.mul_one]
 refine h1.trans (List.ext_getElem? fun j=>?_)
 unfold mrow setM
 rw [List.getElem?_set]
 by_cases hj:q=j
 ·subst hj
  simp [h]
 ·rw [if_neg hj]
  by_cases hn:j<n
  ·simp [hn,show ¬ j=q from fun e=>hj e.symm]
  ·rw [List.getElem?_eq_none (by simp;omega),List.getElem?_eq_none (by simp;omega)]
theorem am_ (M:Nat→Nat→Int) (n:Nat) {p i:Nat} (q:Nat) (v:Int) (h:i≠p):mrow (setM M p q v) n i=mrow M n i:=by
 unfold mrow setM
 simp [h]
def MR (A:Au) (r p q:Nat):Nat→Nat→Int:=fun i j=>if i<p∨(i=p∧j<q) then farK A (r+1) i j else farK A r i j
theorem g6_ (A:Au) (r:Nat):MR A r 0 0=fun (i j:Nat)=>farK A r i j:=by
 funext i j
 unfold MR
 rw [if_neg (by omega)]
theorem kc_ (A:Au) (r p n i:Nat):mrow (MR A r p n) n i=mrow (MR A r (p+1) 0) n i:=by
 unfold mrow MR
 refine List.map_congr_left fun j hj=>?_
 have:=List.mem_range.1 hj
 by_cases h:i<p∨i=p
 ·rw [if_pos (by omega),if_pos (by omega)]
 ·rw [if_neg (by omega),if_neg (by omega)]
theorem kz_ (A:Au) (r n:Nat) {i:Nat} (hi:i<n):mrow (MR A r n 0) n i=mrow (MR A (r+1) 0 0) n i:=by
 unfold mrow MR
 refine List.map_congr_left fun j hj=>?_
 rw [if_pos (.inl hi),if_neg (by omega)]
theorem df_ (A:Au) (r p q:Nat):MR A r p q p q=farK A r p q:=by
 unfold MR
 rw [if_neg (by omega)]
theorem rg_ (A:Au) (r p q i j:Nat):MR A r p q i j=(r:Int)↔farK A r i j=(r:Int):=by
 unfold MR
 split
 ·exact ul_
 ·exact Iff.rfl
theorem g9_ {A:Au} {r p q:Nat} (h:farK A (r+1) p q=farK A r p q):MR A r p (q+1)=MR A r p q:=by
 funext i j
 unfold MR
 by_cases h1:i<p∨i=p∧j<q
 ·rw [if_pos (by omega),if_pos h1]
 ·by_cases h2:i=p∧j=q
  ·obtain⟨rfl,rfl⟩:=h2
   rw [if_pos (by omega),if_neg h1,h]
  ·rw [if_neg (by omega),if_neg h1]
theorem kb_ {A:Au} {r p q:Nat} {v:Int} (h:farK A (r+1) p q=v):setM (MR A r p q) p q v=MR A r p (q+1):=by
 funext i j
 unfold setM MR
 by_cases h2:i=p∧j=q
 ·rw [if_pos h2]
  obtain⟨rfl,rfl⟩:=h2
  rw [if_pos (by omega),h]
 ·rw [if_neg h2]
  by_cases h1:i<p∨i=p∧j<q
  ·rw [if_pos h1,if_pos (by omega)]
  ·rw [if_neg h1,if_neg (by omega)]
theorem b2_ {A:Au} {r:Nat} {p q:Int} (h:0≤farK A r p q):farK A (r+1) p q=farK A r p q:=by rw [farK,if_pos h]
theorem g4_ {A:Au} {r:Nat} {p q:Int} {s:Sp} (h:farK A r p q<0) (hs:s∈ab_ A) (he:farK A r (an_ A s p) (an_ A s q)=(r:Int)):farK A (r+1) p q=((r+1:Nat):Int):=by
 rw [farK,if_neg (by omega),if_pos (List.any_eq_true.2 ⟨s,hs,decide_eq_true he⟩)]
theorem fg_ {A:Au} {r:Nat} {p q:Int} (h:farK A r p q<0) (hn:∀ s∈ab_ A,farK A r (an_ A s p) (an_ A s q)≠(r:Int)):farK A (r+1) p q=farK A r p q:=by
 have h1:=(fr_ A r p q).2.2
 rw [farK,if_neg (by omega),if_neg (fun q=>?_)]
 ·omega
 ·obtain⟨s,hs,he⟩:=List.any_eq_true.1 q
  exact hn s hs (of_decide_eq_true he)
abbrev sS (n m r p q s:Nat) (SC:List D):Fr:=[(1,.ref 1 0),(3,.flat (.int .i64 ((n:Nat):Int))),(4,.own 16 n),(7,.sl false 3 m SC),(8,.flat (.int .i64 ((r:Nat):Int))),(9,.flat (.int .i64 ((p:Nat):Int))),(10,.flat (.int .i64 ((q:Nat):Int))),(11,.flat (.int .i64 ((s:Nat):Int)))]
abbrev sQ (n m r p q:Nat) (SC:List D):Fr:=[(1,.ref 1 0),(3,.flat (.int .i64 ((n:Nat):Int))),(4,.own 16 n),(7,.sl false 3 m SC),(8,.flat (.int .i64 ((r:Nat):Int))),(9,.flat (.int .i64 ((p:Nat):Int))),(10,.flat (.int .i64 ((q:Nat):Int)))]
abbrev sP (n m r p:Nat) (SC:List D):Fr:=[(1,.ref 1 0),(3,.flat (.int .i64 ((n:Nat):Int))),(4,.own 16 n),(7,.sl false 3 m SC),(8,.flat (.int .i64 ((r:Nat):Int))),(9,.flat (.int .i64 ((p:Nat):Int)))]
abbrev sR (n m r:Nat) (SC:List D):Fr:=[(1,.ref 1 0),(3,.flat (.int .i64 ((n:Nat):Int))),(4,.own 16 n),(7,.sl false 3 m SC),(8,.flat (.int .i64 ((r:Nat):Int)))]
abbrev eT1 (rl n ta:Nat) (LR LB LT:List D) (M:Nat→Nat→Int):Sg:=[(1,some (.box [.sl false 1 rl LR,.sl false 1 n LB,.sl false 1 ta LT])),(16,some (.row 22 1 n [.own 801 n])),(801,some (.row 3 1 n (mrow M n 0)))]
theorem wj_ {cc:Code} (hsel:selC [1,1,1,1,1,0,1,2,2,1,0,2,1,2,2,1,0,2,1,2,2,1,0,2,1,2,2,0,0] ap_=some cc) (n m rl ta r q s p:Nat) (hN:n=1) (LR LB LT SC:List D) (M:Nat→Nat→Int) (q1:persL LR=true) (q2:persL LB=true) (q3:persL LT=true) (q4:persL SC=true) (hm:m≤5000000) (hr:r<n) (hp:p<n) (hq:q<n) (hs:s<m):DW Try.prog 118 cc ⟨(sS n m r p q s SC),(eT1 rl n ta LR LB LT M)⟩ (Nm 118 ⟨(85,.flat (.bool (decide (M p q<0))))::(sS n m r p q s SC),(eT1 rl n ta LR LB LT M)⟩):=by
 refine DW.sel hsel (by rfl) ?_
 dsimp only [eT1,sS]
 have hv:=bg_ (M:=M) (p:=p) hq
 generalize M p q=v at*
 obtain rfl:p=0:=by omega
 all_goals
  have z0:=aa_ M n 0
  generalize mrow M n 0=R0 at*
  refine DW.walk ?_
  exact Nm.mk Sub.auto
theorem zu_ {cc:Code} (hsel:selC [1,1,1,1,1,0,1,2,2,1,0,2,1,2,2,1,0,2,1,2,2,1,0,2,1,2,2,1,0,2,0] ap_=some cc) (n m rl ta r q s p:Nat) (hN:n=1) (LR LB LT SC:List D) (M:Nat→Nat→Int) (q1:persL LR=true) (q2:persL LB=true) (q3:persL LT=true) (q4:persL SC=true) (hm:m≤5000000) (hr:r<n) (hp:p<n) (hq:q<n) (hs:s<m) (sy sa so:Int) (x y:Nat) (hx:x<n) (hy:y<n) (hst:partD true 3 (s*3) SC=some (.agg [.flat (.int .i64 sy),.flat (.int .i64 sa),.flat (.int .i64 so)])) (hgx:DFun Try.prog 23 [.agg [.sl false 1 rl LR,.sl false 1 n LB,.sl false 1 ta LT],.agg [.flat (.int .i64 sy),.flat (.int .i64 sa),.flat (.int .i64 so)],.flat (.int .i64 ((p:Nat):Int))] (.flat (.int .i64 ((x:Nat):Int)))) (hgy:DFun Try.prog 23 [.agg [.sl false 1 rl LR,.sl false 1 n LB,.sl false 1 ta LT],.agg [.flat (.int .i64 sy),.flat (.int .i64 sa),.flat (.int .i64 so)],.flat (.int .i64 ((q:Nat):Int))] (.flat (.int .i64 ((y:Nat):Int)))):DW Try.prog 118 cc ⟨(sS n m r p q s SC),(eT1 rl n ta LR LB LT M)⟩ (Nm 118 ⟨(108,.flat (.bool (decide (M x y=(r:Int)))))::(sS n m r p q s SC),(eT1 rl n ta LR LB LT M)⟩):=by
 refine DW.sel hsel (by rfl) ?_
 dsimp only [eT1,sS]
 have hv:=bg_ (M:=M) (p:=x) hy
 generalize M x y=v at*
 obtain rfl:x=0:=by omega
 all_goals
  have z0:=aa_ M n 0
  generalize mrow M n 0=R0 at*
  refine DW.walk ?_
  exact Nm.mk Sub.auto
theorem acg {cc:Code} (hsel:selC [1,1,1,1,1,0,1,2,2,1,0,2,1,2,2,1,0,2,1,2,2,1,0,2,1,2,2,1,0,2,1,0] ap_=some cc) (n m rl ta r q s p:Nat) (hN:n=1) (LR LB LT SC:List D) (M:Nat→Nat→Int) (q1:persL LR=true) (q2:persL LB=true) (q3:persL LT=true) (q4:persL SC=true) (hm:m≤5000000) (hr:r<n) (hp:p<n) (hq:q<n) (hs:s<m):DW Try.prog 118 cc ⟨(sS n m r p q s SC),(eT1 rl n ta LR LB LT M)⟩ (Nm 118 ⟨(sS n m r p q s SC),(eT1 rl n ta LR LB LT (setM M p q ((r:Int)+1)))⟩):=by
 refine DW.sel hsel (by rfl) ?_
 dsimp only [eT1,sS]
 obtain rfl:p=0:=by omega
 ·have hl:=a6_ M n 0
  have hX:=a8_ M (p:=0) ((r:Int)+1) hq
  have zX:=aa_ (setM M 0 q ((r:Int)+1)) n 0
  skip
  generalize mrow (setM M 0 q ((r:Int)+1)) n 0=X at*
  have z0:=aa_ M n 0
  generalize mrow M n 0=R0 at*
  refine DW.walk ?_
  rw [hX]
  exact Nm.mk Sub.auto
abbrev eT2 (rl n ta:Nat) (LR LB LT:List D) (M:Nat→Nat→Int):Sg:=[(1,some (.box [.sl false 1 rl LR,.sl false 1 n LB,.sl false 1 ta LT])),(16,some (.row 22 1 n [.own 801 n,.own 802 n])),(801,some (.row 3 1 n (mrow M n 0))),(802,some (.row 3 1 n (mrow M n 1)))]
theorem w5_ {cc:Code} (hsel:selC [1,1,1,1,1,0,1,2,2,1,0,2,1,2,2,1,0,2,1,2,2,1,0,2,1,2,2,0,0] ap_=some cc) (n m rl ta r q s p:Nat) (hN:n=2) (LR LB LT SC:List D) (M:Nat→Nat→Int) (q1:persL LR=true) (q2:persL LB=true) (q3:persL LT=true) (q4:persL SC=true) (hm:m≤5000000) (hr:r<n) (hp:p<n) (hq:q<n) (hs:s<m):DW Try.prog 118 cc ⟨(sS n m r p q s SC),(eT2 rl n ta LR LB LT M)⟩ (Nm 118 ⟨(85,.flat (.bool (decide (M p q<0))))::(sS n m r p q s SC),(eT2 rl n ta LR LB LT M)⟩):=by
 refine DW.sel hsel (by rfl) ?_
 dsimp only [eT2,sS]
 have hv:=bg_ (M:=M) (p:=p) hq
 generalize M p q=v at*
 rcases (show p=0∨p=1 by omega) with rfl|rfl
 all_goals
  have z0:=aa_ M n 0
  generalize mrow M n 0=R0 at*
  have z1:=aa_ M n 1
  generalize mrow M n 1=R1 at*
  refine DW.walk ?_
  exact Nm.mk Sub.auto
theorem aap {cc:Code} (hsel:selC [1,1,1,1,1,0,1,2,2,1,0,2,1,2,2,1,0,2,1,2,2,1,0,2,1,2,2,1,0,2,0] ap_=some cc) (n m rl ta r q s p:Nat) (hN:n=2) (LR LB LT SC:List D) (M:Nat→Nat→Int) (q1:persL LR=true) (q2:persL LB=true) (q3:persL LT=true) (q4:persL SC=true) (hm:m≤5000000) (hr:r<n) (hp:p<n) (hq:q<n) (hs:s<m) (sy sa so:Int) (x y:Nat) (hx:x<n) (hy:y<n) (hst:partD true 3 (s*3) SC=some (.agg [.flat (.int .i64 sy),.flat (.int .i64 sa),.flat (.int .i64 so)])) (hgx:DFun Try.prog 23 [.agg [.sl false 1 rl LR,.sl false 1 n LB,.sl false 1 ta LT],.agg [.flat (.int .i64 sy),.flat (.int .i64 sa),.flat (.int .i64 so)],.flat (.int .i64 ((p:Nat):Int))] (.flat (.int .i64 ((x:Nat):Int)))) (hgy:DFun Try.prog 23 [.agg [.sl false 1 rl LR,.sl false 1 n LB,.sl false 1 ta LT],.agg [.flat (.int .i64 sy),.flat (.int .i64 sa),.flat (.int .i64 so)],.flat (.int .i64 ((q:Nat):Int))] (.flat (.int .i64 ((y:Nat):Int)))):DW Try.prog 118 cc ⟨(sS n m r p q s SC),(eT2 rl n ta LR LB LT M)⟩ (Nm 118 ⟨(108,.flat (.bool (decide (M x y=(r:Int)))))::(sS n m r p q s SC),(eT2 rl n ta LR LB LT M)⟩):=by
 refine DW.sel hsel (by rfl) ?_
 dsimp only [eT2,sS]
 have hv:=bg_ (M:=M) (p:=x) hy
 generalize M x y=v at*
 rcases (show x=0∨x=1 by omega) with rfl|rfl
 all_goals
  have z0:=aa_ M n 0
  generalize mrow M n 0=R0 at*
  have z1:=aa_ M n 1
  generalize mrow M n 1=R1 at*
  refine DW.walk ?_
  exact Nm.mk Sub.auto
theorem zs_ {cc:Code} (hsel:selC [1,1,1,1,1,0,1,2,2,1,0,2,1,2,2,1,0,2,1,2,2,1,0,2,1,2,2,1,0,2,1,0] ap_=some cc) (n m rl ta r q s p:Nat) (hN:n=2) (LR LB LT SC:List D) (M:Nat→Nat→Int) (q1:persL LR=true) (q2:persL LB=true) (q3:persL LT=true) (q4:persL SC=true) (hm:m≤5000000) (hr:r<n) (hp:p<n) (hq:q<n) (hs:s<m):DW Try.prog 118 cc ⟨(sS n m r p q s SC),(eT2 rl n ta LR LB LT M)⟩ (Nm 118 ⟨(sS n m r p q s SC),(eT2 rl n ta LR LB LT (setM M p q ((r:Int)+1)))⟩):=by
 refine DW.sel hsel (by rfl) ?_
 dsimp only [eT2,sS]
 rcases (show p=0∨p=1 by omega) with rfl|rfl
 ·have hl:=a6_ M n 0
  have hX:=a8_ M (p:=0) ((r:Int)+1) hq
  have zX:=aa_ (setM M 0 q ((r:Int)+1)) n 0
  rw [am_ M n q ((r:Int)+1) (show 1≠0 by decide)]
  generalize mrow (setM M 0 q ((r:Int)+1)) n 0=X at*
  have z0:=aa_ M n 0
  generalize mrow M n 0=R0 at*
  have z1:=aa_ M n 1
  generalize mrow M n 1=R1 at*
  refine DW.walk ?_
  rw [hX]
  exact Nm.mk Sub.auto
 ·have hl:=a6_ M n 1
  have hX:=a8_ M (p:=1) ((r:Int)+1) hq
  have zX:=aa_ (setM M 1 q ((r:Int)+1)) n 1
  rw [am_ M n q ((r:Int)+1) (show 0≠1 by decide)]
  generalize mrow (setM M 1 q ((r:Int)+1)) n 1=X at*
  have z0:=aa_ M n 0
  generalize mrow M n 0=R0 at*
  have z1:=aa_ M n 1
  generalize mrow M n 1=R1 at*
  refine DW.walk ?_
  rw [hX]
  exact Nm.mk Sub.auto
abbrev eT3 (rl n ta:Nat) (LR LB LT:List D) (M:Nat→Nat→Int):Sg:=[(1,some (.box [.sl false 1 rl LR,.sl false 1 n LB,.sl false 1 ta LT])),(16,some (.row 22 1 n [.own 801 n,.own 802 n,.own 803 n])),(801,some (.row 3 1 n (mrow M n 0))),(802,some (.row 3 1 n (mrow M n 1))),(803,some (.row 3 1 n (mrow M n 2)))]
theorem wy_ {cc:Code} (hsel:selC [1,1,1,1,1,0,1,2,2,1,0,2,1,2,2,1,0,2,1,2,2,1,0,2,1,2,2,0,0] ap_=some cc) (n m rl ta r q s p:Nat) (hN:n=3) (LR LB LT SC:List D) (M:Nat→Nat→Int) (q1:persL LR=true) (q2:persL LB=true) (q3:persL LT=true) (q4:persL SC=true) (hm:m≤5000000) (hr:r<n) (hp:p<n) (hq:q<n) (hs:s<m):DW Try.prog 118 cc ⟨(sS n m r p q s SC),(eT3 rl n ta LR LB LT M)⟩ (Nm 118 ⟨(85,.flat (.bool (decide (M p q<0))))::(sS n m r p q s SC),(eT3 rl n ta LR LB LT M)⟩):=by
 refine DW.sel hsel (by rfl) ?_
 dsimp only [eT3,sS]
 have hv:=bg_ (M:=M) (p:=p) hq
 generalize M p q=v at*
 rcases (show p=0∨p=1∨p=2 by omega) with rfl|rfl|rfl
 all_goals
  have z0:=aa_ M n 0
  generalize mrow M n 0=R0 at*
  have z1:=aa_ M n 1
  generalize mrow M n 1=R1 at*
  have z2:=aa_ M n 2
  generalize mrow M n 2=R2 at*
  refine DW.walk ?_
  exact Nm.mk Sub.auto
theorem aaq {cc:Code} (hsel:selC [1,1,1,1,1,0,1,2,2,1,0,2,1,2,2,1,0,2,1,2,2,1,0,2,1,2,2,1,0,2,0] ap_=some cc) (n m rl ta r q s p:Nat) (hN:n=3) (LR LB LT SC:List D) (M:Nat→Nat→Int) (q1:persL LR=true) (q2:persL LB=true) (q3:persL LT=true) (q4:persL SC=true) (hm:m≤5000000) (hr:r<n) (hp:p<n) (hq:q<n) (hs:s<m) (sy sa so:Int) (x y:Nat) (hx:x<n) (hy:y<n) (hst:partD true 3 (s*3) SC=some (.agg [.flat (.int .i64 sy),.flat (.int .i64 sa),.flat (.int .i64 so)])) (hgx:DFun Try.prog 23 [.agg [.sl false 1 rl LR,.sl false 1 n LB,.sl false 1 ta LT],.agg [.flat (.int .i64 sy),.flat (.int .i64 sa),.flat (.int .i64 so)],.flat (.int .i64 ((p:Nat):Int))] (.flat (.int .i64 ((x:Nat):Int)))) (hgy:DFun Try.prog 23 [.agg [.sl false 1 rl LR,.sl false 1 n LB,.sl false 1 ta LT],.agg [.flat (.int .i64 sy),.flat (.int .i64 sa),.flat (.int .i64 so)],.flat (.int .i64 ((q:Nat):Int))] (.flat (.int .i64 ((y:Nat):Int)))):DW Try.prog 118 cc ⟨(sS n m r p q s SC),(eT3 rl n ta LR LB LT M)⟩ (Nm 118 ⟨(108,.flat (.bool (decide (M x y=(r:Int)))))::(sS n m r p q s SC),(eT3 rl n ta LR LB LT M)⟩):=by
 refine DW.sel hsel (by rfl) ?_
 dsimp only [eT3,sS]
 have hv:=bg_ (M:=M) (p:=x) hy
 generalize M x y=v at*
 rcases (show x=0∨x=1∨x=2 by omega) with rfl|rfl|rfl
 all_goals
  have z0:=aa_ M n 0
  generalize mrow M n 0=R0 at*
  have z1:=aa_ M n 1
  generalize mrow M n 1=R1 at*
  have z2:=aa_ M n 2
  generalize mrow M n 2=R2 at*
  refine DW.walk ?_
  exact Nm.mk Sub.auto
theorem aao {cc:Code} (hsel:selC [1,1,1,1,1,0,1,2,2,1,0,2,1,2,2,1,0,2,1,2,2,1,0,2,1,2,2,1,0,2,1,0] ap_=some cc) (n m rl ta r q s p:Nat) (hN:n=3) (LR LB LT SC:List D) (M:Nat→Nat→Int) (q1:persL LR=true) (q2:persL LB=true) (q3:persL LT=true) (q4:persL SC=true) (hm:m≤5000000) (hr:r<n) (hp:p<n) (hq:q<n) (hs:s<m):DW Try.prog 118 cc ⟨(sS n m r p q s SC),(eT3 rl n ta LR LB LT M)⟩ (Nm 118 ⟨(sS n m r p q s SC),(eT3 rl n ta LR LB LT (setM M p q ((r:Int)+1)))⟩):=by
 refine DW.sel hsel (by rfl) ?_
 dsimp only [eT3,sS]
 rcases (show p=0∨p=1∨p=2 by omega) with rfl|rfl|rfl
 ·have hl:=a6_ M n 0
  have hX:=a8_ M (p:=0) ((r:Int)+1) hq
  have zX:=aa_ (setM M 0 q ((r:Int)+1)) n 0
  rw [am_ M n q ((r:Int)+1) (show 1≠0 by decide),am_ M n q ((r:Int)+1) (show 2≠0 by decide)]
  generalize mrow (setM M 0 q ((r:Int)+1)) n 0=X at*
  have z0:=aa_ M n 0
  generalize mrow M n 0=R0 at*
  have z1:=aa_ M n 1
  generalize mrow M n 1=R1 at*
  have z2:=aa_ M n 2
  generalize mrow M n 2=R2 at*
  refine DW.walk ?_
  rw [hX]
  exact Nm.mk Sub.auto
 ·have hl:=a6_ M n 1
  have hX:=a8_ M (p:=1) ((r:Int)+1) hq
  have zX:=aa_ (setM M 1 q ((r:Int)+1)) n 1
  rw [am_ M n q ((r:Int)+1) (show 0≠1 by decide),am_ M n q ((r:Int)+1) (show 2≠1 by decide)]
  generalize mrow (setM M 1 q ((r:Int)+1)) n 1=X at*
  have z0:=aa_ M n 0
  generalize mrow M n 0=R0 at*
  have z1:=aa_ M n 1
  generalize mrow M n 1=R1 at*
  have z2:=aa_ M n 2
  generalize mrow M n 2=R2 at*
  refine DW.walk ?_
  rw [hX]
  exact Nm.mk Sub.auto
 ·have hl:=a6_ M n 2
  have hX:=a8_ M (p:=2) ((r:Int)+1) hq
  have zX:=aa_ (setM M 2 q ((r:Int)+1)) n 2
  rw [am_ M n q ((r:Int)+1) (show 0≠2 by decide),am_ M n q ((r:Int)+1) (show 1≠2 by decide)]
  generalize mrow (setM M 2 q ((r:Int)+1)) n 2=X at*
  have z0:=aa_ M n 0
  generalize mrow M n 0=R0 at*
  have z1:=aa_ M n 1
  generalize mrow M n 1=R1 at*
  have z2:=aa_ M n 2
  generalize mrow M n 2=R2 at*
  refine DW.walk ?_
  rw [hX]
  exact Nm.mk Sub.auto
end Go.Proofs.Ytichhfbkhnimmaa
