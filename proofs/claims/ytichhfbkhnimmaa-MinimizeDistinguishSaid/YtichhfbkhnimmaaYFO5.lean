/- Following: a row. No condition. -/
import Derived.Test.YtichhfbkhnimmaaYFO4
set_option linter.unusedSimpArgs false
set_option linter.unusedVariables false
set_option maxHeartbeats 4000000
set_option maxRecDepth 8000
namespace Go.Proofs.Ytichhfbkhnimmaa
open Go Go.RowKit Go.PP Go.Dm Go.Rt Go.Mn
theorem kn_zero (x:Nat) {φ:Nat→Nat} {n:Nat} {K:List Bool} (h:x<n) (hk:kn K x=true):partD false 1 (0+x) ((foU φ n K).map fun x=>D.flat (.int .i64 x))=some (.flat (.int .i64 (((φ x):Nat):Int))):=by
 have:=part_i (foU_get (φ:=φ) (K:=K) h)
 rw [if_pos hk,Nat.mul_one] at this
 rw [Nat.zero_add];exact this
theorem kn_none (x:Nat) {φ:Nat→Nat} {n:Nat} {K:List Bool} (h:x<n) (hk:¬ kn K x=true):partD false 1 (0+x) ((foU φ n K).map fun x=>D.flat (.int .i64 x))=some (.flat (.int .i64 (-1))):=by
 have:=part_i (foU_get (φ:=φ) (K:=K) h)
 rw [if_neg hk,Nat.mul_one] at this
 rw [Nat.zero_add];exact this
theorem frow_d {cc:Code} (hsel:selC [1,1,1,1,0,1,2,2,1,2,1,1,2,2] code100=some cc) (A B:Au) (φ:Nat→Nat) (hok:AuOk A) (hokB:AuOk B) (hiso:Iso A B φ) (hBf:B.final.length=A.final.length) (i:Nat) (hi:i<A.ranks.length) (K:List Bool) (m:Bool) (hK:K.length=A.final.length):
    DW Try.prog 133 cc ⟨[(26,.sl false 1 A.ranks.length (A.ranks.map fun x=>D.flat (.int .i64 x))),(27,.flat (.int .i64 ((A.ranks.length:Nat):Int))),(28,.flat (.int .i64 ((i:Nat):Int))),(2,.ptr [.sl false 1 A.ranks.length (A.ranks.map fun x=>D.flat (.int .i64 x)),.sl false 1 A.final.length (A.final.map fun x=>D.flat (.bool x)),.sl false 1 A.ranks.length (rowsL A.to)] 0),(3,.ptr [.sl false 1 B.ranks.length (B.ranks.map fun x=>D.flat (.int .i64 x)),.sl false 1 A.final.length (B.final.map fun x=>D.flat (.bool x)),.sl false 1 A.ranks.length (rowsL B.to)] 0),(5,.ref 13107200005 0),(6,.flat (.int .i64 ((A.final.length:Nat):Int))),(7,.clo (.func 123) [] [.ref 13107200005 0]),(8,.flat (.bool m))],[(13107200005,some (.box [.bsl 13107200007 0 A.final.length A.final.length])),(13107200007,some (.box ((foU φ A.final.length K).map fun x=>D.flat (.int .i64 x))))]⟩ (Nm 133 ⟨[(26,.sl false 1 A.ranks.length (A.ranks.map fun x=>D.flat (.int .i64 x))),(27,.flat (.int .i64 ((A.ranks.length:Nat):Int))),(28,.flat (.int .i64 (((i+1):Nat):Int))),(2,.ptr [.sl false 1 A.ranks.length (A.ranks.map fun x=>D.flat (.int .i64 x)),.sl false 1 A.final.length (A.final.map fun x=>D.flat (.bool x)),.sl false 1 A.ranks.length (rowsL A.to)] 0),(3,.ptr [.sl false 1 B.ranks.length (B.ranks.map fun x=>D.flat (.int .i64 x)),.sl false 1 A.final.length (B.final.map fun x=>D.flat (.bool x)),.sl false 1 A.ranks.length (rowsL B.to)] 0),(5,.ref 13107200005 0),(6,.flat (.int .i64 ((A.final.length:Nat):Int))),(7,.clo (.func 123) [] [.ref 13107200005 0]),(8,.flat (.bool (fRow A i (K,m) (rowN A i).length).2))],[(13107200005,some (.box [.bsl 13107200007 0 A.final.length A.final.length])),(13107200007,some (.box ((foU φ A.final.length (fRow A i (K,m) (rowN A i).length).1).map fun x=>D.flat (.int .i64 x))))]⟩):=by
  have hn0:=hok.lo
  obtain⟨hr1,hr2,hr3⟩:=rowN_at hok hi
  obtain⟨hk2,hrk⟩:=rankN_le hok hi
  have hTl:A.to.length=A.ranks.length:=hok.len
  have hrl1:(rowN A i).length≤1000000:=(few_of hok).l _ (List.mem_of_getElem? hr1)
  have q1:=pers_i A.ranks
  have q2:=pers_b A.final
  have q3:=pers_r A.to
  have q4:=pers_i B.ranks
  have q5:=pers_b B.final
  have q6:=pers_r B.to
  have pRW:=pers_i (rowN A i)
  have hLR:=part_i hrk
  have hLT:=part_r hr1
  have hinv:∀ j,j≤(rowN A i).length→(fRow A i (K,m) j).1.length=A.final.length:=fun j hj=>by
    have h:=FInv.row hok (K0:=K) hK hi (x:=(K,false)) ⟨rfl,fun _=>rfl,fun h=>by cases h⟩ j hj
    have h2:∀ j b,((fRow A i (K,b) j).1=(fRow A i (K,false) j).1):=fun j b=>by
      induction j with
      |zero=>rfl
      | succ j ih=>
        show (fstep A i j (fRow A i (K,b) j)).1=(fstep A i j (fRow A i (K,false) j)).1
        unfold fstep
        rw [ih]
        split
        ·rfl
        ·exact ih
    rw [h2];exact h.len.trans hK
  have hpF:=fun U:List Int=>pers_i U
  refine DW.sel hsel (by rfl) ?_
  have p00:=hpF (foU φ A.final.length K)
  have k00:=keys_ints (foU φ A.final.length K)
  have hRl:A.ranks.length≤4096:=hok.alpha.hi
  generalize hF0:((foU φ A.final.length K).map fun x=>D.flat (.int .i64 x))=F0 at*
  refine DW.walk ?_
  refine DW.loopA (fun j:Nat=>⟨[(9,.flat (.int .i64 ((i:Nat):Int))),(10,.flat (.int .i64 (((rankN A i):Nat):Int))),(37,.sl false 1 (rowN A i).length ((rowN A i).map fun x=>D.flat (.int .i64 x))),(38,.flat (.int .i64 (((rowN A i).length:Nat):Int))),(39,.flat (.int .i64 ((j:Nat):Int))),(26,.sl false 1 A.ranks.length (A.ranks.map fun x=>D.flat (.int .i64 x))),(27,.flat (.int .i64 ((A.ranks.length:Nat):Int))),(28,.flat (.int .i64 ((i:Nat):Int))),(2,.ptr [.sl false 1 A.ranks.length (A.ranks.map fun x=>D.flat (.int .i64 x)),.sl false 1 A.final.length (A.final.map fun x=>D.flat (.bool x)),.sl false 1 A.ranks.length (rowsL A.to)] 0),(3,.ptr [.sl false 1 B.ranks.length (B.ranks.map fun x=>D.flat (.int .i64 x)),.sl false 1 A.final.length (B.final.map fun x=>D.flat (.bool x)),.sl false 1 A.ranks.length (rowsL B.to)] 0),(5,.ref 13107200005 0),(6,.flat (.int .i64 ((A.final.length:Nat):Int))),(7,.clo (.func 123) [] [.ref 13107200005 0]),(8,.flat (.bool (fRow A i (K,m) j).2))],[(13107200005,some (.box [.bsl 13107200007 0 A.final.length A.final.length])),(13107200007,some (.box ((foU φ A.final.length (fRow A i (K,m) j).1).map fun x=>D.flat (.int .i64 x))))]⟩) (fun j=>j≤(rowN A i).length) (fun j=>(rowN A i).length - j) 0 ?_ (Nat.zero_le _) (by show Sub _ _ ⟨[(9,.flat (.int .i64 ((i:Nat):Int))),(10,.flat (.int .i64 (((rankN A i):Nat):Int))),(37,.sl false 1 (rowN A i).length ((rowN A i).map fun x=>D.flat (.int .i64 x))),(38,.flat (.int .i64 (((rowN A i).length:Nat):Int))),(39,.flat (.int .i64 ((0:Nat):Int))),(26,.sl false 1 A.ranks.length (A.ranks.map fun x=>D.flat (.int .i64 x))),(27,.flat (.int .i64 ((A.ranks.length:Nat):Int))),(28,.flat (.int .i64 ((i:Nat):Int))),(2,.ptr [.sl false 1 A.ranks.length (A.ranks.map fun x=>D.flat (.int .i64 x)),.sl false 1 A.final.length (A.final.map fun x=>D.flat (.bool x)),.sl false 1 A.ranks.length (rowsL A.to)] 0),(3,.ptr [.sl false 1 B.ranks.length (B.ranks.map fun x=>D.flat (.int .i64 x)),.sl false 1 A.final.length (B.final.map fun x=>D.flat (.bool x)),.sl false 1 A.ranks.length (rowsL B.to)] 0),(5,.ref 13107200005 0),(6,.flat (.int .i64 ((A.final.length:Nat):Int))),(7,.clo (.func 123) [] [.ref 13107200005 0]),(8,.flat (.bool m))],[(13107200005,some (.box [.bsl 13107200007 0 A.final.length A.final.length])),(13107200007,some (.box ((foU φ A.final.length K).map fun x=>D.flat (.int .i64 x))))]⟩;rw [hF0];exact Sub.auto)
  intro j hj
  rcases Nat.lt_or_ge j (rowN A i).length with hlt|hge
  · obtain ⟨x, hx⟩:∃ x,fRow A i (K,m) j=x:=⟨_,rfl⟩
    have hxl:=hinv j hj
    rw [hx] at hxl ⊢
    obtain⟨-,hsn⟩:=hr3 j ((rowN A i)[j]'hlt) (by simp)
    have hsp:=part_i (l:=rowN A i) (i:=j) (x:=((succN A i j:Nat):Int)) (by rw [← (hr3 j ((rowN A i)[j]'hlt) (by simp)).1];simp)
    have p0:=hpF (foU φ A.final.length x.1)
    have p1:=hpF (foU φ A.final.length (x.1.set (succN A i j) true))
    have hkk:rankN A i=0∨rankN A i=1∨rankN A i=2:=by omega
    rcases hkk with hk|hk|hk
    · rw [hk,Nat.pow_zero] at hr2
      have hj0:j=0:=by omega
      obtain⟨rowB,hb1,hb2⟩:=hiso.at0 i hi hk
      have hb2:rowB[0]?=some ((φ (succN A i j):Nat):Int):=by rw [hj0];exact hb2
      have hQ:=part_r hb1
      have hv:=part_i hb2
      have hql:rowB.length≤1000000:=(few_of hokB).l _ (List.mem_of_getElem? hb1)
      have h0q:=(List.getElem?_eq_some_iff.1 hb2).1
      have hall:(opsN A.final.length (rankN A i) j).all (kn x.1)=true:=by rw [hk];rfl
      rw [hk]
      have hc:=set_d A.final.length (by have:=hok.hi;omega) (foU φ A.final.length x.1) (foU_len ..) (succN A i j) _ ((φ (succN A i j):Nat):Int) (foU_get hsn)
      rw [foU_set hxl hsn] at hc
      by_cases hk:kn x.1 (succN A i j)=true
      · rw [if_pos hk,decide_eq_false (by omega)] at hc
        have hst:fRow A i (K,m) (j+1)=(x.1.set (succN A i j) true,x.2):=by
          show fstep A i j (fRow A i (K,m) j)=_
          rw [hx]
          unfold fstep
          rw [if_pos hall,hk];rfl
        refine (fo0f (by rfl) _ _ _ _ _ _ _ _ A.final.length A.ranks.length B.ranks.length A.ranks.length _ _ _ _ _ ⟨hn0,hok.hi⟩ ⟨hok.alpha.hi,rfl,by have:=hokB.alpha.hi;omega⟩ hi hlt hrl1 q1 q2 q3 q4 q5 q6 pRW p0 (keys_ints _) hsp _ _ _ _ p1 (keys_ints _) (pers_i _) hql hQ h0q hv hc).mono ?_
        rintro e s' ⟨rfl,hsub⟩
        exact⟨j+1,by omega,by omega,by rw [hst];exact hsub⟩
      · have hk:kn x.1 (succN A i j)=false:=by simpa using hk
        rw [if_neg (by rw [hk];simp),decide_eq_true rfl] at hc
        have hst:fRow A i (K,m) (j+1)=(x.1.set (succN A i j) true,true):=by
          show fstep A i j (fRow A i (K,m) j)=_
          rw [hx]
          unfold fstep
          rw [if_pos hall,hk];rfl
        refine (fo0t (by rfl) _ _ _ _ _ _ _ _ A.final.length A.ranks.length B.ranks.length A.ranks.length _ _ _ _ _ ⟨hn0,hok.hi⟩ ⟨hok.alpha.hi,rfl,by have:=hokB.alpha.hi;omega⟩ hi hlt hrl1 q1 q2 q3 q4 q5 q6 pRW p0 (keys_ints _) hsp _ _ _ _ p1 (keys_ints _) (pers_i _) hql hQ h0q hv hc).mono ?_
        rintro e s' ⟨rfl,hsub⟩
        exact⟨j+1,by omega,by omega,by rw [hst];exact hsub⟩
    · rw [hk, Nat.pow_one] at hr2
      obtain⟨rowB,hb1,hb2⟩:=hiso.at1 i hi hk
      have hb2:=hb2 j (by omega)
      have hQ:=part_r hb1
      have hv:=part_i hb2
      have hql:rowB.length≤1000000:=(few_of hokB).l _ (List.mem_of_getElem? hb1)
      have hxq:=(List.getElem?_eq_some_iff.1 hb2).1
      have hops:opsN A.final.length (rankN A i) j=[j]:=by rw [hk];rfl
      by_cases hkj:kn x.1 j=true
      · have hall:(opsN A.final.length (rankN A i) j).all (kn x.1)=true:=by rw [hops];simp [hkj]
        have hjx:=kn_zero (φ:=φ) j (show j<A.final.length by omega) hkj
        rw [hk]
        by_cases hz:kn x.1 0=true
        · have hz:=kn_zero (φ:=φ) 0 (show 0<A.final.length by omega) hz
          have hc:=set_d A.final.length (by have:=hok.hi;omega) (foU φ A.final.length x.1) (foU_len ..) (succN A i j) _ ((φ (succN A i j):Nat):Int) (foU_get hsn)
          rw [foU_set hxl hsn] at hc
          by_cases hk:kn x.1 (succN A i j)=true
          · rw [if_pos hk,decide_eq_false (by omega)] at hc
            have hst:fRow A i (K,m) (j+1)=(x.1.set (succN A i j) true,x.2):=by
              show fstep A i j (fRow A i (K,m) j)=_
              rw [hx]
              unfold fstep
              rw [if_pos hall,hk];rfl
            refine (fo1bf (by rfl) _ _ _ _ _ _ _ _ A.final.length A.ranks.length B.ranks.length A.ranks.length _ _ _ _ _ ⟨hn0,hok.hi⟩ ⟨hok.alpha.hi,rfl,by have:=hokB.alpha.hi;omega⟩ hi hlt hrl1 q1 q2 q3 q4 q5 q6 pRW p0 (keys_ints _) hsp _ _ _ _ p1 (keys_ints _) (pers_i _) hql hQ _ hz _ (by omega) hjx hxq hv hc).mono ?_
            rintro e s' ⟨rfl,hsub⟩
            exact⟨j+1,by omega,by omega,by rw [hst];exact hsub⟩
          · have hk:kn x.1 (succN A i j)=false:=by simpa using hk
            rw [if_neg (by rw [hk];simp),decide_eq_true rfl] at hc
            have hst:fRow A i (K,m) (j+1)=(x.1.set (succN A i j) true,true):=by
              show fstep A i j (fRow A i (K,m) j)=_
              rw [hx]
              unfold fstep
              rw [if_pos hall,hk];rfl
            refine (fo1bt (by rfl) _ _ _ _ _ _ _ _ A.final.length A.ranks.length B.ranks.length A.ranks.length _ _ _ _ _ ⟨hn0,hok.hi⟩ ⟨hok.alpha.hi,rfl,by have:=hokB.alpha.hi;omega⟩ hi hlt hrl1 q1 q2 q3 q4 q5 q6 pRW p0 (keys_ints _) hsp _ _ _ _ p1 (keys_ints _) (pers_i _) hql hQ _ hz _ (by omega) hjx hxq hv hc).mono ?_
            rintro e s' ⟨rfl,hsub⟩
            exact⟨j+1,by omega,by omega,by rw [hst];exact hsub⟩
        · have hz:=kn_none (φ:=φ) 0 (show 0<A.final.length by omega) hz
          have hc:=set_d A.final.length (by have:=hok.hi;omega) (foU φ A.final.length x.1) (foU_len ..) (succN A i j) _ ((φ (succN A i j):Nat):Int) (foU_get hsn)
          rw [foU_set hxl hsn] at hc
          by_cases hk:kn x.1 (succN A i j)=true
          · rw [if_pos hk,decide_eq_false (by omega)] at hc
            have hst:fRow A i (K,m) (j+1)=(x.1.set (succN A i j) true,x.2):=by
              show fstep A i j (fRow A i (K,m) j)=_
              rw [hx]
              unfold fstep
              rw [if_pos hall,hk];rfl
            refine (fo1af (by rfl) _ _ _ _ _ _ _ _ A.final.length A.ranks.length B.ranks.length A.ranks.length _ _ _ _ _ ⟨hn0,hok.hi⟩ ⟨hok.alpha.hi,rfl,by have:=hokB.alpha.hi;omega⟩ hi hlt hrl1 q1 q2 q3 q4 q5 q6 pRW p0 (keys_ints _) hsp _ _ _ _ p1 (keys_ints _) (pers_i _) hql hQ hz _ (by omega) hjx hxq hv hc).mono ?_
            rintro e s' ⟨rfl,hsub⟩
            exact⟨j+1,by omega,by omega,by rw [hst];exact hsub⟩
          · have hk:kn x.1 (succN A i j)=false:=by simpa using hk
            rw [if_neg (by rw [hk];simp),decide_eq_true rfl] at hc
            have hst:fRow A i (K,m) (j+1)=(x.1.set (succN A i j) true,true):=by
              show fstep A i j (fRow A i (K,m) j)=_
              rw [hx]
              unfold fstep
              rw [if_pos hall,hk];rfl
            refine (fo1at (by rfl) _ _ _ _ _ _ _ _ A.final.length A.ranks.length B.ranks.length A.ranks.length _ _ _ _ _ ⟨hn0,hok.hi⟩ ⟨hok.alpha.hi,rfl,by have:=hokB.alpha.hi;omega⟩ hi hlt hrl1 q1 q2 q3 q4 q5 q6 pRW p0 (keys_ints _) hsp _ _ _ _ p1 (keys_ints _) (pers_i _) hql hQ hz _ (by omega) hjx hxq hv hc).mono ?_
            rintro e s' ⟨rfl,hsub⟩
            exact⟨j+1,by omega,by omega,by rw [hst];exact hsub⟩
      · have hall:¬ (opsN A.final.length (rankN A i) j).all (kn x.1)=true:=by rw [hops];simp [hkj]
        have hjx:=kn_none (φ:=φ) j (show j<A.final.length by omega) hkj
        rw [hk]
        have hst:fRow A i (K,m) (j+1)=x:=by
          show fstep A i j (fRow A i (K,m) j)=_
          rw [hx]
          unfold fstep
          rw [if_neg hall]
        refine (fo1n (by rfl) _ _ _ _ _ _ _ _ A.final.length A.ranks.length B.ranks.length A.ranks.length _ _ _ _ _ ⟨hn0,hok.hi⟩ ⟨hok.alpha.hi,rfl,by have:=hokB.alpha.hi;omega⟩ hi hlt hrl1 q1 q2 q3 q4 q5 q6 pRW p0 (keys_ints _) hsp (by omega) hjx).mono ?_
        rintro e s' ⟨rfl,hsub⟩
        exact⟨j+1,by omega,by omega,by rw [hst];exact hsub⟩
    · rw [hk] at hr2
      have hr2:(rowN A i).length=A.final.length*A.final.length:=by rw [hr2,Nat.pow_two]
      have hd1:j / A.final.length<A.final.length:=Nat.div_lt_of_lt_mul (by omega)
      have hd2:j % A.final.length<A.final.length:=Nat.mod_lt _ hn0
      obtain⟨rowB,hb1,hb2⟩:=hiso.at2 i hi hk
      have hb2:=hb2 j (by omega)
      have hQ:=part_r hb1
      have hv:=part_i hb2
      have hql:rowB.length≤1000000:=(few_of hokB).l _ (List.mem_of_getElem? hb1)
      have hxq:=(List.getElem?_eq_some_iff.1 hb2).1
      have hops:opsN A.final.length (rankN A i) j=[j / A.final.length,j % A.final.length]:=by rw [hk];rfl
      have hl1:=hiso.lt _ hd1
      have hl2:=hiso.lt _ hd2
      have hnn:=hok.hi
      have hmul:((φ (j / A.final.length):Nat):Int)*(A.final.length:Int)≤300000:=by
        have:φ (j / A.final.length)*A.final.length≤512*512:=Nat.mul_le_mul (by omega) hnn
        have h2:((φ (j / A.final.length)*A.final.length:Nat):Int)≤((512*512:Nat):Int):=Int.ofNat_le.2 this
        rw [Int.natCast_mul] at h2
        omega
      by_cases hka:kn x.1 (j / A.final.length)=true
      · have hax:=kn_zero (φ:=φ) _ hd1 hka
        by_cases hkb:kn x.1 (j % A.final.length)=true
        · have hbx:=kn_zero (φ:=φ) _ hd2 hkb
          have hall:(opsN A.final.length (rankN A i) j).all (kn x.1)=true:=by rw [hops];simp [hka,hkb]
          rw [hk]
          have hc:=set_d A.final.length (by have:=hok.hi;omega) (foU φ A.final.length x.1) (foU_len ..) (succN A i j) _ ((φ (succN A i j):Nat):Int) (foU_get hsn)
          rw [foU_set hxl hsn] at hc
          by_cases hk:kn x.1 (succN A i j)=true
          · rw [if_pos hk,decide_eq_false (by omega)] at hc
            have hst:fRow A i (K,m) (j+1)=(x.1.set (succN A i j) true,x.2):=by
              show fstep A i j (fRow A i (K,m) j)=_
              rw [hx]
              unfold fstep
              rw [if_pos hall,hk];rfl
            refine (fo2f (by rfl) _ _ _ _ _ _ _ _ A.final.length A.ranks.length B.ranks.length A.ranks.length _ _ _ _ _ ⟨hn0,hok.hi⟩ ⟨hok.alpha.hi,rfl,by have:=hokB.alpha.hi;omega⟩ hi hlt hrl1 q1 q2 q3 q4 q5 q6 pRW p0 (keys_ints _) hsp _ _ _ _ p1 (keys_ints _) (pers_i _) hql hQ hd1 hd2 _ _ hax hbx (by omega) (by omega) hmul hxq hv hc).mono ?_
            rintro e s' ⟨rfl,hsub⟩
            exact⟨j+1,by omega,by omega,by rw [hst];exact hsub⟩
          · have hk:kn x.1 (succN A i j)=false:=by simpa using hk
            rw [if_neg (by rw [hk];simp),decide_eq_true rfl] at hc
            have hst:fRow A i (K,m) (j+1)=(x.1.set (succN A i j) true,true):=by
              show fstep A i j (fRow A i (K,m) j)=_
              rw [hx]
              unfold fstep
              rw [if_pos hall,hk];rfl
            refine (fo2t (by rfl) _ _ _ _ _ _ _ _ A.final.length A.ranks.length B.ranks.length A.ranks.length _ _ _ _ _ ⟨hn0,hok.hi⟩ ⟨hok.alpha.hi,rfl,by have:=hokB.alpha.hi;omega⟩ hi hlt hrl1 q1 q2 q3 q4 q5 q6 pRW p0 (keys_ints _) hsp _ _ _ _ p1 (keys_ints _) (pers_i _) hql hQ hd1 hd2 _ _ hax hbx (by omega) (by omega) hmul hxq hv hc).mono ?_
            rintro e s' ⟨rfl,hsub⟩
            exact⟨j+1,by omega,by omega,by rw [hst];exact hsub⟩
        · have hbx:=kn_none (φ:=φ) _ hd2 hkb
          have hall:¬ (opsN A.final.length (rankN A i) j).all (kn x.1)=true:=by rw [hops];simp [hkb]
          rw [hk]
          have hst:fRow A i (K,m) (j+1)=x:=by
            show fstep A i j (fRow A i (K,m) j)=_
            rw [hx]
            unfold fstep
            rw [if_neg hall]
          refine (fo2m (by rfl) _ _ _ _ _ _ _ _ A.final.length A.ranks.length B.ranks.length A.ranks.length _ _ _ _ _ ⟨hn0,hok.hi⟩ ⟨hok.alpha.hi,rfl,by have:=hokB.alpha.hi;omega⟩ hi hlt hrl1 q1 q2 q3 q4 q5 q6 pRW p0 (keys_ints _) hsp hd1 hd2 _ (by omega) hax hbx).mono ?_
          rintro e s' ⟨rfl,hsub⟩
          exact⟨j+1,by omega,by omega,by rw [hst];exact hsub⟩
      · have hax:=kn_none (φ:=φ) _ hd1 hka
        have hall:¬ (opsN A.final.length (rankN A i) j).all (kn x.1)=true:=by rw [hops];simp [hka]
        rw [hk]
        have hst:fRow A i (K,m) (j+1)=x:=by
          show fstep A i j (fRow A i (K,m) j)=_
          rw [hx]
          unfold fstep
          rw [if_neg hall]
        refine (fo2n (by rfl) _ _ _ _ _ _ _ _ A.final.length A.ranks.length B.ranks.length A.ranks.length _ _ _ _ _ ⟨hn0,hok.hi⟩ ⟨hok.alpha.hi,rfl,by have:=hokB.alpha.hi;omega⟩ hi hlt hrl1 q1 q2 q3 q4 q5 q6 pRW p0 (keys_ints _) hsp hd1 hd2 hax).mono ?_
        rintro e s' ⟨rfl,hsub⟩
        exact⟨j+1,by omega,by omega,by rw [hst];exact hsub⟩
  · obtain rfl:(rowN A i).length=j:=by omega
    have p0:=hpF (foU φ A.final.length (fRow A i (K,m) (rowN A i).length).1)
    have k0:=keys_ints (foU φ A.final.length (fRow A i (K,m) (rowN A i).length).1)
    generalize hF1:((foU φ A.final.length (fRow A i (K,m) (rowN A i).length).1).map fun x=>D.flat (.int .i64 x))=F1 at*
    refine DW.walk ?_
    exact Nm.mk Sub.auto
end Go.Proofs.Ytichhfbkhnimmaa
