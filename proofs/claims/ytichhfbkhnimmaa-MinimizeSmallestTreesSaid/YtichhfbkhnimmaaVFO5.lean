/- Following: a row. No condition. -/
import Derived.Test.YtichhfbkhnimmaaVFO4
set_option linter.unusedSimpArgs false
set_option linter.unusedVariables false
set_option maxHeartbeats 4000000
set_option maxRecDepth 8000
namespace Go.Proofs.Ytichhfbkhnimmaa
open Go Go.RowKit Go.PP Go.Dm Go.Rt Go.Mn
theorem kr_ (x:Nat) {φ:Nat→Nat} {n:Nat} {K:List Bool} (h:x<n) (hk:kn K x=true):partD false 1 (0+x) ((foU φ n K).map fun x=>D.flat (.int .i64 x))=some (.flat (.int .i64 (((φ x):Nat):Int))):=by
 have:=an_ (ds_ (φ:=φ) (K:=K) h)
 rw [if_pos hk,Nat.mul_one] at this
 rw [Nat.zero_add];exact this
theorem k9_ (x:Nat) {φ:Nat→Nat} {n:Nat} {K:List Bool} (h:x<n) (hk:¬ kn K x=true):partD false 1 (0+x) ((foU φ n K).map fun x=>D.flat (.int .i64 x))=some (.flat (.int .i64 (-1))):=by
 have:=an_ (ds_ (φ:=φ) (K:=K) h)
 rw [if_neg hk,Nat.mul_one] at this
 rw [Nat.zero_add];exact this
theorem ze_ {cc:Code} (hsel:selC [1,1,1,1,0,1,2,2,1,2,1,1,2,2] cf_=some cc) (A B:Au) (φ:Nat→Nat) (hok:AuOk A) (hokB:AuOk B) (hiso:Iso A B φ) (hBf:B.f.length=A.f.length) (i:Nat) (hi:i<A.r.length) (K:List Bool) (m:Bool) (hK:K.length=A.f.length):
    DW Try.prog 133 cc ⟨[(26,.sl false 1 A.r.length (A.r.map fun x=>D.flat (.int .i64 x))),(27,.flat (.int .i64 ((A.r.length:Nat):Int))),(28,.flat (.int .i64 ((i:Nat):Int))),(2,.ptr [.sl false 1 A.r.length (A.r.map fun x=>D.flat (.int .i64 x)),.sl false 1 A.f.length (A.f.map fun x=>D.flat (.bool x)),.sl false 1 A.r.length (aj_ A.to)] 0),(3,.ptr [.sl false 1 B.r.length (B.r.map fun x=>D.flat (.int .i64 x)),.sl false 1 A.f.length (B.f.map fun x=>D.flat (.bool x)),.sl false 1 A.r.length (aj_ B.to)] 0),(5,.ref 13107200005 0),(6,.flat (.int .i64 ((A.f.length:Nat):Int))),(7,.clo (.func 123) [] [.ref 13107200005 0]),(8,.flat (.bool m))],[(13107200005,some (.box [.bsl 13107200007 0 A.f.length A.f.length])),(13107200007,some (.box ((foU φ A.f.length K).map fun x=>D.flat (.int .i64 x))))]⟩ (Nm 133 ⟨[(26,.sl false 1 A.r.length (A.r.map fun x=>D.flat (.int .i64 x))),(27,.flat (.int .i64 ((A.r.length:Nat):Int))),(28,.flat (.int .i64 (((i+1):Nat):Int))),(2,.ptr [.sl false 1 A.r.length (A.r.map fun x=>D.flat (.int .i64 x)),.sl false 1 A.f.length (A.f.map fun x=>D.flat (.bool x)),.sl false 1 A.r.length (aj_ A.to)] 0),(3,.ptr [.sl false 1 B.r.length (B.r.map fun x=>D.flat (.int .i64 x)),.sl false 1 A.f.length (B.f.map fun x=>D.flat (.bool x)),.sl false 1 A.r.length (aj_ B.to)] 0),(5,.ref 13107200005 0),(6,.flat (.int .i64 ((A.f.length:Nat):Int))),(7,.clo (.func 123) [] [.ref 13107200005 0]),(8,.flat (.bool (fRow A i (K,m) (rowN A i).length).2))],[(13107200005,some (.box [.bsl 13107200007 0 A.f.length A.f.length])),(13107200007,some (.box ((foU φ A.f.length (fRow A i (K,m) (rowN A i).length).1).map fun x=>D.flat (.int .i64 x))))]⟩):=by
  have hn0:=hok.lo
  obtain⟨hr1,hr2,hr3⟩:=bq_ hok hi
  obtain⟨hk2,hrk⟩:=bg_ hok hi
  have hTl:A.to.length=A.r.length:=hok.len
  have hrl1:(rowN A i).length≤1000000:=(bj_ hok).l _ (List.mem_of_getElem? hr1)
  have q1:=ab_ A.r
  have q2:=al_ A.f
  have q3:=ao_ A.to
  have q4:=ab_ B.r
  have q5:=al_ B.f
  have q6:=ao_ B.to
  have pRW:=ab_ (rowN A i)
  have hLR:=an_ hrk
  have hLT:=dc_ hr1
  have hinv:∀ j,j≤(rowN A i).length→(fRow A i (K,m) j).1.length=A.f.length:=fun j hj=>by
    have h:=FInv.row hok (K0:=K) hK hi (x:=(K,false)) ⟨rfl,fun _=>rfl,fun h=>by cases h⟩ j hj
    have h2:∀ j b,((fRow A i (K,b) j).1=(fRow A i (K,false) j).1):=fun j b=>by
      induction j with
      |zero=>rfl
      | succ j ih=>
        show (ce_ A i j (fRow A i (K,b) j)).1=(ce_ A i j (fRow A i (K,false) j)).1
        unfold ce_
        rw [ih]
        split
        ·rfl
        ·exact ih
    rw [h2];exact h.len.trans hK
  have hpF:=fun U:List Int=>ab_ U
  refine DW.sel hsel (by rfl) ?_
  have p00:=hpF (foU φ A.f.length K)
  have k00:=am_ (foU φ A.f.length K)
  have hRl:A.r.length≤4096:=hok.alpha.hi
  generalize hF0:((foU φ A.f.length K).map fun x=>D.flat (.int .i64 x))=F0 at*
  refine DW.walk ?_
  refine DW.loopA (fun j:Nat=>⟨[(9,.flat (.int .i64 ((i:Nat):Int))),(10,.flat (.int .i64 (((rankN A i):Nat):Int))),(37,.sl false 1 (rowN A i).length ((rowN A i).map fun x=>D.flat (.int .i64 x))),(38,.flat (.int .i64 (((rowN A i).length:Nat):Int))),(39,.flat (.int .i64 ((j:Nat):Int))),(26,.sl false 1 A.r.length (A.r.map fun x=>D.flat (.int .i64 x))),(27,.flat (.int .i64 ((A.r.length:Nat):Int))),(28,.flat (.int .i64 ((i:Nat):Int))),(2,.ptr [.sl false 1 A.r.length (A.r.map fun x=>D.flat (.int .i64 x)),.sl false 1 A.f.length (A.f.map fun x=>D.flat (.bool x)),.sl false 1 A.r.length (aj_ A.to)] 0),(3,.ptr [.sl false 1 B.r.length (B.r.map fun x=>D.flat (.int .i64 x)),.sl false 1 A.f.length (B.f.map fun x=>D.flat (.bool x)),.sl false 1 A.r.length (aj_ B.to)] 0),(5,.ref 13107200005 0),(6,.flat (.int .i64 ((A.f.length:Nat):Int))),(7,.clo (.func 123) [] [.ref 13107200005 0]),(8,.flat (.bool (fRow A i (K,m) j).2))],[(13107200005,some (.box [.bsl 13107200007 0 A.f.length A.f.length])),(13107200007,some (.box ((foU φ A.f.length (fRow A i (K,m) j).1).map fun x=>D.flat (.int .i64 x))))]⟩) (fun j=>j≤(rowN A i).length) (fun j=>(rowN A i).length - j) 0 ?_ (Nat.zero_le _) (by show Sub _ _ ⟨[(9,.flat (.int .i64 ((i:Nat):Int))),(10,.flat (.int .i64 (((rankN A i):Nat):Int))),(37,.sl false 1 (rowN A i).length ((rowN A i).map fun x=>D.flat (.int .i64 x))),(38,.flat (.int .i64 (((rowN A i).length:Nat):Int))),(39,.flat (.int .i64 ((0:Nat):Int))),(26,.sl false 1 A.r.length (A.r.map fun x=>D.flat (.int .i64 x))),(27,.flat (.int .i64 ((A.r.length:Nat):Int))),(28,.flat (.int .i64 ((i:Nat):Int))),(2,.ptr [.sl false 1 A.r.length (A.r.map fun x=>D.flat (.int .i64 x)),.sl false 1 A.f.length (A.f.map fun x=>D.flat (.bool x)),.sl false 1 A.r.length (aj_ A.to)] 0),(3,.ptr [.sl false 1 B.r.length (B.r.map fun x=>D.flat (.int .i64 x)),.sl false 1 A.f.length (B.f.map fun x=>D.flat (.bool x)),.sl false 1 A.r.length (aj_ B.to)] 0),(5,.ref 13107200005 0),(6,.flat (.int .i64 ((A.f.length:Nat):Int))),(7,.clo (.func 123) [] [.ref 13107200005 0]),(8,.flat (.bool m))],[(13107200005,some (.box [.bsl 13107200007 0 A.f.length A.f.length])),(13107200007,some (.box ((foU φ A.f.length K).map fun x=>D.flat (.int .i64 x))))]⟩;rw [hF0];exact Sub.auto)
  intro j hj
  rcases Nat.lt_or_ge j (rowN A i).length with hlt|hge
  · obtain ⟨x, hx⟩:∃ x,fRow A i (K,m) j=x:=⟨_,rfl⟩
    have hxl:=hinv j hj
    rw [hx] at hxl ⊢
    obtain⟨-,hsn⟩:=hr3 j ((rowN A i)[j]'hlt) (by simp)
    have hsp:=an_ (l:=rowN A i) (i:=j) (x:=((succN A i j:Nat):Int)) (by rw [← (hr3 j ((rowN A i)[j]'hlt) (by simp)).1];simp)
    have p0:=hpF (foU φ A.f.length x.1)
    have p1:=hpF (foU φ A.f.length (x.1.set (succN A i j) true))
    have hkk:rankN A i=0∨rankN A i=1∨rankN A i=2:=by omega
    rcases hkk with hk|hk|hk
    · rw [hk,Nat.pow_zero] at hr2
      have hj0:j=0:=by omega
      obtain⟨rowB,hb1,hb2⟩:=hiso.at0 i hi hk
      have hb2:rowB[0]?=some ((φ (succN A i j):Nat):Int):=by rw [hj0];exact hb2
      have hQ:=dc_ hb1
      have hv:=an_ hb2
      have hql:rowB.length≤1000000:=(bj_ hokB).l _ (List.mem_of_getElem? hb1)
      have h0q:=(List.getElem?_eq_some_iff.1 hb2).1
      have hall:(opsN A.f.length (rankN A i) j).all (kn x.1)=true:=by rw [hk];rfl
      rw [hk]
      have hc:=vc_ A.f.length (by have:=hok.hi;omega) (foU φ A.f.length x.1) (d6_ ..) (succN A i j) _ ((φ (succN A i j):Nat):Int) (ds_ hsn)
      rw [ln_ hxl hsn] at hc
      by_cases hk:kn x.1 (succN A i j)=true
      · rw [if_pos hk,decide_eq_false (by omega)] at hc
        have hst:fRow A i (K,m) (j+1)=(x.1.set (succN A i j) true,x.2):=by
          show ce_ A i j (fRow A i (K,m) j)=_
          rw [hx]
          unfold ce_
          rw [if_pos hall,hk];rfl
        refine (fo0f (by rfl) _ _ _ _ _ _ _ _ A.f.length A.r.length B.r.length A.r.length _ _ _ _ _ ⟨hn0,hok.hi⟩ ⟨hok.alpha.hi,rfl,by have:=hokB.alpha.hi;omega⟩ hi hlt hrl1 q1 q2 q3 q4 q5 q6 pRW p0 (am_ _) hsp _ _ _ _ p1 (am_ _) (ab_ _) hql hQ h0q hv hc).mono ?_
        rintro e s' ⟨rfl,hsub⟩
        exact⟨j+1,by omega,by omega,by rw [hst];exact hsub⟩
      · have hk:kn x.1 (succN A i j)=false:=by simpa using hk
        rw [if_neg (by rw [hk];simp),decide_eq_true rfl] at hc
        have hst:fRow A i (K,m) (j+1)=(x.1.set (succN A i j) true,true):=by
          show ce_ A i j (fRow A i (K,m) j)=_
          rw [hx]
          unfold ce_
          rw [if_pos hall,hk];rfl
        refine (fo0t (by rfl) _ _ _ _ _ _ _ _ A.f.length A.r.length B.r.length A.r.length _ _ _ _ _ ⟨hn0,hok.hi⟩ ⟨hok.alpha.hi,rfl,by have:=hokB.alpha.hi;omega⟩ hi hlt hrl1 q1 q2 q3 q4 q5 q6 pRW p0 (am_ _) hsp _ _ _ _ p1 (am_ _) (ab_ _) hql hQ h0q hv hc).mono ?_
        rintro e s' ⟨rfl,hsub⟩
        exact⟨j+1,by omega,by omega,by rw [hst];exact hsub⟩
    · rw [hk, Nat.pow_one] at hr2
      obtain⟨rowB,hb1,hb2⟩:=hiso.at1 i hi hk
      have hb2:=hb2 j (by omega)
      have hQ:=dc_ hb1
      have hv:=an_ hb2
      have hql:rowB.length≤1000000:=(bj_ hokB).l _ (List.mem_of_getElem? hb1)
      have hxq:=(List.getElem?_eq_some_iff.1 hb2).1
      have hops:opsN A.f.length (rankN A i) j=[j]:=by rw [hk];rfl
      by_cases hkj:kn x.1 j=true
      · have hall:(opsN A.f.length (rankN A i) j).all (kn x.1)=true:=by rw [hops];simp [hkj]
        have hjx:=kr_ (φ:=φ) j (show j<A.f.length by omega) hkj
        rw [hk]
        by_cases hz:kn x.1 0=true
        · have hz:=kr_ (φ:=φ) 0 (show 0<A.f.length by omega) hz
          have hc:=vc_ A.f.length (by have:=hok.hi;omega) (foU φ A.f.length x.1) (d6_ ..) (succN A i j) _ ((φ (succN A i j):Nat):Int) (ds_ hsn)
          rw [ln_ hxl hsn] at hc
          by_cases hk:kn x.1 (succN A i j)=true
          · rw [if_pos hk,decide_eq_false (by omega)] at hc
            have hst:fRow A i (K,m) (j+1)=(x.1.set (succN A i j) true,x.2):=by
              show ce_ A i j (fRow A i (K,m) j)=_
              rw [hx]
              unfold ce_
              rw [if_pos hall,hk];rfl
            refine (ad8 (by rfl) _ _ _ _ _ _ _ _ A.f.length A.r.length B.r.length A.r.length _ _ _ _ _ ⟨hn0,hok.hi⟩ ⟨hok.alpha.hi,rfl,by have:=hokB.alpha.hi;omega⟩ hi hlt hrl1 q1 q2 q3 q4 q5 q6 pRW p0 (am_ _) hsp _ _ _ _ p1 (am_ _) (ab_ _) hql hQ _ hz _ (by omega) hjx hxq hv hc).mono ?_
            rintro e s' ⟨rfl,hsub⟩
            exact⟨j+1,by omega,by omega,by rw [hst];exact hsub⟩
          · have hk:kn x.1 (succN A i j)=false:=by simpa using hk
            rw [if_neg (by rw [hk];simp),decide_eq_true rfl] at hc
            have hst:fRow A i (K,m) (j+1)=(x.1.set (succN A i j) true,true):=by
              show ce_ A i j (fRow A i (K,m) j)=_
              rw [hx]
              unfold ce_
              rw [if_pos hall,hk];rfl
            refine (acu (by rfl) _ _ _ _ _ _ _ _ A.f.length A.r.length B.r.length A.r.length _ _ _ _ _ ⟨hn0,hok.hi⟩ ⟨hok.alpha.hi,rfl,by have:=hokB.alpha.hi;omega⟩ hi hlt hrl1 q1 q2 q3 q4 q5 q6 pRW p0 (am_ _) hsp _ _ _ _ p1 (am_ _) (ab_ _) hql hQ _ hz _ (by omega) hjx hxq hv hc).mono ?_
            rintro e s' ⟨rfl,hsub⟩
            exact⟨j+1,by omega,by omega,by rw [hst];exact hsub⟩
        · have hz:=k9_ (φ:=φ) 0 (show 0<A.f.length by omega) hz
          have hc:=vc_ A.f.length (by have:=hok.hi;omega) (foU φ A.f.length x.1) (d6_ ..) (succN A i j) _ ((φ (succN A i j):Nat):Int) (ds_ hsn)
          rw [ln_ hxl hsn] at hc
          by_cases hk:kn x.1 (succN A i j)=true
          · rw [if_pos hk,decide_eq_false (by omega)] at hc
            have hst:fRow A i (K,m) (j+1)=(x.1.set (succN A i j) true,x.2):=by
              show ce_ A i j (fRow A i (K,m) j)=_
              rw [hx]
              unfold ce_
              rw [if_pos hall,hk];rfl
            refine (abt (by rfl) _ _ _ _ _ _ _ _ A.f.length A.r.length B.r.length A.r.length _ _ _ _ _ ⟨hn0,hok.hi⟩ ⟨hok.alpha.hi,rfl,by have:=hokB.alpha.hi;omega⟩ hi hlt hrl1 q1 q2 q3 q4 q5 q6 pRW p0 (am_ _) hsp _ _ _ _ p1 (am_ _) (ab_ _) hql hQ hz _ (by omega) hjx hxq hv hc).mono ?_
            rintro e s' ⟨rfl,hsub⟩
            exact⟨j+1,by omega,by omega,by rw [hst];exact hsub⟩
          · have hk:kn x.1 (succN A i j)=false:=by simpa using hk
            rw [if_neg (by rw [hk];simp),decide_eq_true rfl] at hc
            have hst:fRow A i (K,m) (j+1)=(x.1.set (succN A i j) true,true):=by
              show ce_ A i j (fRow A i (K,m) j)=_
              rw [hx]
              unfold ce_
              rw [if_pos hall,hk];rfl
            refine (ac1 (by rfl) _ _ _ _ _ _ _ _ A.f.length A.r.length B.r.length A.r.length _ _ _ _ _ ⟨hn0,hok.hi⟩ ⟨hok.alpha.hi,rfl,by have:=hokB.alpha.hi;omega⟩ hi hlt hrl1 q1 q2 q3 q4 q5 q6 pRW p0 (am_ _) hsp _ _ _ _ p1 (am_ _) (ab_ _) hql hQ hz _ (by omega) hjx hxq hv hc).mono ?_
            rintro e s' ⟨rfl,hsub⟩
            exact⟨j+1,by omega,by omega,by rw [hst];exact hsub⟩
      · have hall:¬ (opsN A.f.length (rankN A i) j).all (kn x.1)=true:=by rw [hops];simp [hkj]
        have hjx:=k9_ (φ:=φ) j (show j<A.f.length by omega) hkj
        rw [hk]
        have hst:fRow A i (K,m) (j+1)=x:=by
          show ce_ A i j (fRow A i (K,m) j)=_
          rw [hx]
          unfold ce_
          rw [if_neg hall]
        refine (fo1n (by rfl) _ _ _ _ _ _ _ _ A.f.length A.r.length B.r.length A.r.length _ _ _ _ _ ⟨hn0,hok.hi⟩ ⟨hok.alpha.hi,rfl,by have:=hokB.alpha.hi;omega⟩ hi hlt hrl1 q1 q2 q3 q4 q5 q6 pRW p0 (am_ _) hsp (by omega) hjx).mono ?_
        rintro e s' ⟨rfl,hsub⟩
        exact⟨j+1,by omega,by omega,by rw [hst];exact hsub⟩
    · rw [hk] at hr2
      have hr2:(rowN A i).length=A.f.length*A.f.length:=by rw [hr2,Nat.pow_two]
      have hd1:j / A.f.length<A.f.length:=Nat.div_lt_of_lt_mul (by omega)
      have hd2:j % A.f.length<A.f.length:=Nat.mod_lt _ hn0
      obtain⟨rowB,hb1,hb2⟩:=hiso.at2 i hi hk
      have hb2:=hb2 j (by omega)
      have hQ:=dc_ hb1
      have hv:=an_ hb2
      have hql:rowB.length≤1000000:=(bj_ hokB).l _ (List.mem_of_getElem? hb1)
      have hxq:=(List.getElem?_eq_some_iff.1 hb2).1
      have hops:opsN A.f.length (rankN A i) j=[j / A.f.length,j % A.f.length]:=by rw [hk];rfl
      have hl1:=hiso.lt _ hd1
      have hl2:=hiso.lt _ hd2
      have hnn:=hok.hi
      have hmul:((φ (j / A.f.length):Nat):Int)*(A.f.length:Int)≤300000:=by
        have:φ (j / A.f.length)*A.f.length≤512*512:=Nat.mul_le_mul (by omega) hnn
        have h2:((φ (j / A.f.length)*A.f.length:Nat):Int)≤((512*512:Nat):Int):=Int.ofNat_le.2 this
        rw [Int.natCast_mul] at h2
        omega
      by_cases hka:kn x.1 (j / A.f.length)=true
      · have hax:=kr_ (φ:=φ) _ hd1 hka
        by_cases hkb:kn x.1 (j % A.f.length)=true
        · have hbx:=kr_ (φ:=φ) _ hd2 hkb
          have hall:(opsN A.f.length (rankN A i) j).all (kn x.1)=true:=by rw [hops];simp [hka,hkb]
          rw [hk]
          have hc:=vc_ A.f.length (by have:=hok.hi;omega) (foU φ A.f.length x.1) (d6_ ..) (succN A i j) _ ((φ (succN A i j):Nat):Int) (ds_ hsn)
          rw [ln_ hxl hsn] at hc
          by_cases hk:kn x.1 (succN A i j)=true
          · rw [if_pos hk,decide_eq_false (by omega)] at hc
            have hst:fRow A i (K,m) (j+1)=(x.1.set (succN A i j) true,x.2):=by
              show ce_ A i j (fRow A i (K,m) j)=_
              rw [hx]
              unfold ce_
              rw [if_pos hall,hk];rfl
            refine (fo2f (by rfl) _ _ _ _ _ _ _ _ A.f.length A.r.length B.r.length A.r.length _ _ _ _ _ ⟨hn0,hok.hi⟩ ⟨hok.alpha.hi,rfl,by have:=hokB.alpha.hi;omega⟩ hi hlt hrl1 q1 q2 q3 q4 q5 q6 pRW p0 (am_ _) hsp _ _ _ _ p1 (am_ _) (ab_ _) hql hQ hd1 hd2 _ _ hax hbx (by omega) (by omega) hmul hxq hv hc).mono ?_
            rintro e s' ⟨rfl,hsub⟩
            exact⟨j+1,by omega,by omega,by rw [hst];exact hsub⟩
          · have hk:kn x.1 (succN A i j)=false:=by simpa using hk
            rw [if_neg (by rw [hk];simp),decide_eq_true rfl] at hc
            have hst:fRow A i (K,m) (j+1)=(x.1.set (succN A i j) true,true):=by
              show ce_ A i j (fRow A i (K,m) j)=_
              rw [hx]
              unfold ce_
              rw [if_pos hall,hk];rfl
            refine (fo2t (by rfl) _ _ _ _ _ _ _ _ A.f.length A.r.length B.r.length A.r.length _ _ _ _ _ ⟨hn0,hok.hi⟩ ⟨hok.alpha.hi,rfl,by have:=hokB.alpha.hi;omega⟩ hi hlt hrl1 q1 q2 q3 q4 q5 q6 pRW p0 (am_ _) hsp _ _ _ _ p1 (am_ _) (ab_ _) hql hQ hd1 hd2 _ _ hax hbx (by omega) (by omega) hmul hxq hv hc).mono ?_
            rintro e s' ⟨rfl,hsub⟩
            exact⟨j+1,by omega,by omega,by rw [hst];exact hsub⟩
        · have hbx:=k9_ (φ:=φ) _ hd2 hkb
          have hall:¬ (opsN A.f.length (rankN A i) j).all (kn x.1)=true:=by rw [hops];simp [hkb]
          rw [hk]
          have hst:fRow A i (K,m) (j+1)=x:=by
            show ce_ A i j (fRow A i (K,m) j)=_
            rw [hx]
            unfold ce_
            rw [if_neg hall]
          refine (fo2m (by rfl) _ _ _ _ _ _ _ _ A.f.length A.r.length B.r.length A.r.length _ _ _ _ _ ⟨hn0,hok.hi⟩ ⟨hok.alpha.hi,rfl,by have:=hokB.alpha.hi;omega⟩ hi hlt hrl1 q1 q2 q3 q4 q5 q6 pRW p0 (am_ _) hsp hd1 hd2 _ (by omega) hax hbx).mono ?_
          rintro e s' ⟨rfl,hsub⟩
          exact⟨j+1,by omega,by omega,by rw [hst];exact hsub⟩
      · have hax:=k9_ (φ:=φ) _ hd1 hka
        have hall:¬ (opsN A.f.length (rankN A i) j).all (kn x.1)=true:=by rw [hops];simp [hka]
        rw [hk]
        have hst:fRow A i (K,m) (j+1)=x:=by
          show ce_ A i j (fRow A i (K,m) j)=_
          rw [hx]
          unfold ce_
          rw [if_neg hall]
        refine (fo2n (by rfl) _ _ _ _ _ _ _ _ A.f.length A.r.length B.r.length A.r.length _ _ _ _ _ ⟨hn0,hok.hi⟩ ⟨hok.alpha.hi,rfl,by have:=hokB.alpha.hi;omega⟩ hi hlt hrl1 q1 q2 q3 q4 q5 q6 pRW p0 (am_ _) hsp hd1 hd2 hax).mono ?_
        rintro e s' ⟨rfl,hsub⟩
        exact⟨j+1,by omega,by omega,by rw [hst];exact hsub⟩
  · obtain rfl:(rowN A i).length=j:=by omega
    have p0:=hpF (foU φ A.f.length (fRow A i (K,m) (rowN A i).length).1)
    have k0:=am_ (foU φ A.f.length (fRow A i (K,m) (rowN A i).length).1)
    generalize hF1:((foU φ A.f.length (fRow A i (K,m) (rowN A i).length).1).map fun x=>D.flat (.int .i64 x))=F1 at*
    refine DW.walk ?_
    exact Nm.mk Sub.auto
end Go.Proofs.Ytichhfbkhnimmaa
