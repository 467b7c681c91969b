/- Automata, plainly: tables by places; what is closed holds of all; least sizes. No condition. -/
import Derived.Test.YtichhfbkhnimmaaYML
import Derived.Test.YtichhfbkhnimmaaProg
import Derived.Test.YtichhfbkhnimmaaCheckedPd
import Derived.Test.YtichhfbkhnimmaaCheckedPe
set_option linter.unusedSimpArgs false
set_option linter.unusedVariables false
set_option maxHeartbeats 400000
namespace Go.Mn
open Go Go.Rt
def opsN (n k at_:Nat):List Nat:=if k=0 then [] else if k=1 then [at_] else [at_ / n,at_ % n]
def rankN (A:Au) (i:Nat):Nat:=(A.r.getD i 0).toNat
def rowN (A:Au) (i:Nat):List Int:=A.to.getD i []
def succN (A:Au) (i at_:Nat):Nat:=((rowN A i).getD at_ 0).toNat
theorem h4_ {A:Au} (hok:AuOk A) {i:Nat} (hi:i<A.r.length):rankN A i≤2∧A.r[i]?=some ((rankN A i:Nat):Int):=by
 obtain⟨r1,r2,r3⟩:=de_ hok hi
 exact⟨r2,r1⟩
theorem jj_ {A:Au} (hok:AuOk A) {i:Nat} (hi:i<A.r.length):A.to[i]?=some (rowN A i)∧(rowN A i).length=A.f.length ^ rankN A i∧ ∀ (p:Nat) (s:Int),(rowN A i)[p]?=some s→s=((succN A i p:Nat):Int)∧succN A i p<A.f.length:=by
 have h1:A.to[i]?=some (rowN A i):=by
  unfold rowN
  rw [List.getD_eq_getElem?_getD,List.getElem?_eq_getElem (by rw [hok.len];exact hi)];rfl
 obtain⟨r1,r2⟩:=h4_ hok hi
 refine⟨h1,?_,fun p s hp=>?_⟩
 ·have:=hok.wide i _ _ h1 r2
  rw [this];unfold ba_;rw [Int.toNat_natCast]
 ·have hr:=hok.rng _ (List.mem_of_getElem? h1) s (List.mem_of_getElem? hp)
  unfold succN
  rw [List.getD_eq_getElem?_getD,hp,Option.getD_some]
  omega
theorem rh_ {n:Nat} {ds:List Int} (hl:ds.length≤2) (hd:∀ d∈ds,0≤d∧d<(n:Int)):opsN n ds.length (a0_ n ds).toNat=ds.map Int.toNat∧(a0_ n ds).toNat<n ^ ds.length:=by
 match ds,hl with
 | [],_=>exact⟨rfl,by show (0:Nat)<n ^ 0;simp⟩
 | [x],_=>
   obtain⟨h1,h2⟩:=hd x (by simp)
   have e:a0_ n [x]=x:=by show 0*(n:Int)+x=x;omega
   rw [e]
   refine⟨rfl,?_⟩
   show x.toNat<n ^ 1
   rw [Nat.pow_one];omega
 | [x,y],_=>
   obtain⟨h1,h2⟩:=hd x (by simp)
   obtain⟨h3,h4⟩:=hd y (by simp)
   obtain⟨a,rfl⟩:=Int.eq_ofNat_of_zero_le h1
   obtain⟨b,rfl⟩:=Int.eq_ofNat_of_zero_le h3
   have e:a0_ n [(a:Int),(b:Int)]=((a*n+b:Nat):Int):=by
    show (0*(n:Int)+(a:Int))*(n:Int)+(b:Int)=_
    rw [Int.zero_mul,Int.zero_add,Int.natCast_add,Int.natCast_mul]
   have hb:b<n:=by omega
   have ha:a<n:=by omega
   rw [e,Int.toNat_natCast]
   constructor
   ·show [(a*n+b) / n,(a*n+b) % n]=[(a:Int).toNat,(b:Int).toNat]
    rw [show (a*n+b) / n=a by rw [Nat.mul_comm,Nat.mul_add_div (by omega),Nat.div_eq_of_lt hb,Nat.add_zero],show (a*n+b) % n=b by rw [Nat.mul_comm,Nat.mul_add_mod,Nat.mod_eq_of_lt hb],Int.toNat_natCast,Int.toNat_natCast]
   ·show a*n+b<n ^ 2
    have:(a+1)*n≤n*n:=Nat.mul_le_mul_right _ ha
    rw [Nat.add_mul,Nat.one_mul] at this
    rw [Nat.pow_two];omega
theorem ju_ {A:Au} (hok:AuOk A) {s:Int} {l:List Tr} (h:bc_ A.r (.node s l)=0):∃ i at_:Nat,s=i∧i<A.r.length∧at_<(rowN A i).length∧opsN A.f.length (rankN A i) at_=(ax_ A l).map Int.toNat∧succN A i at_=(ay_ A (.node s l)).toNat∧rankN A i=l.length:=by
 obtain⟨h1,h2,h3,h4⟩:=b7_ h
 obtain⟨i,rfl⟩:=Int.eq_ofNat_of_zero_le h1
 have hi:i<A.r.length:=by omega
 obtain⟨r1,r2⟩:=h4_ hok hi
 have hrl:rankN A i=l.length:=by
  unfold rankN
  rw [Int.toNat_natCast] at h3
  omega
 have hsl:(ax_ A l).length=l.length:=by rw [cv_,List.length_map]
 obtain⟨p1,p2⟩:=rh_ (n:=A.f.length) (ds:=ax_ A l) (by omega) (fx_ hok l h4)
 obtain⟨q1,q2,q3⟩:=jj_ hok hi
 refine⟨i,(a0_ A.f.length (ax_ A l)).toNat,rfl,hi,by rw [q2,hrl,← hsl];exact p2,by rw [hrl,← hsl];exact p1,?_,hrl⟩
 rw [bb_]
 unfold succN atI rowN
 rw [Int.toNat_natCast]
def jr_ (A:Au) (K:Nat→Prop):Prop:= ∀ i at_:Nat,i<A.r.length→at_<(rowN A i).length→(∀ o∈opsN A.f.length (rankN A i) at_,K o)→K (succN A i at_)
mutual
theorem jq_ {A:Au} (hok:AuOk A) {K:Nat→Prop} (h:jr_ A K):∀ t:Tr,bc_ A.r t=0→K (ay_ A t).toNat
 | .node s l,hn=>by
   obtain⟨i,a,rfl,h1,h2,h3,h4,h5⟩:=ju_ hok hn
   rw [← h4]
   refine h i a h1 h2 fun o ho=>?_
   rw [h3] at ho
   obtain⟨x,hx,rfl⟩:=List.mem_map.1 ho
   exact ho_ hok h l (b7_ hn).2.2.2 x hx
theorem ho_ {A:Au} (hok:AuOk A) {K:Nat→Prop} (h:jr_ A K):∀ l:List Tr,bq_ A.r l=0→ ∀ x∈ax_ A l,K x.toNat
 | [],_,x,hx=>by rw [ax_] at hx;cases hx
 |t::ts,hn,x,hx=>by
  obtain⟨h1,h2⟩:=ci_ hn
  rw [ax_] at hx
  rcases List.mem_cons.1 hx with rfl|hx
  ·exact jq_ hok h t h1
  ·exact ho_ hok h ts h2 x hx
end
theorem nt_ {A:Au} (hok:AuOk A) {K:Nat→Prop} (h:jr_ A K) {x:Int} (hx:x∈ac_ A):K x.toNat:=by
 obtain⟨t,h1,rfl⟩:=ed_ hok hx
 exact jq_ hok h t h1
def sumN (sz:Nat→Nat) (l:List Nat):Nat:=(l.map sz).sum
structure SizeIn (A:Au) (sz:Nat→Nat):Prop where
 le:∀ x,x<A.f.length→sz x≤4097
 by_:∀ x,x<A.f.length→sz x≠4097→ ∃ t,Reach A (x:Int) t∧co_ t=sz x
def oy_ (A:Au) (sz:Nat→Nat):Prop:= ∀ i at_:Nat,i<A.r.length→at_<(rowN A i).length→sz (succN A i at_)≤1+sumN sz (opsN A.f.length (rankN A i) at_)
mutual
theorem sx_ {A:Au} (hok:AuOk A) {sz:Nat→Nat} (h:oy_ A sz):∀ t:Tr,bc_ A.r t=0→sz (ay_ A t).toNat≤co_ t
 | .node s l,hn=>by
   obtain⟨i,a,rfl,h1,h2,h3,h4,h5⟩:=ju_ hok hn
   have h6:=h i a h1 h2
   rw [h4,h3] at h6
   have h7:=qi_ hok h l (b7_ hn).2.2.2
   rw [fh_]
   unfold sumN at h6
   omega
theorem qi_ {A:Au} (hok:AuOk A) {sz:Nat→Nat} (h:oy_ A sz):∀ l:List Tr,bq_ A.r l=0→(((ax_ A l).map Int.toNat).map sz).sum≤d1_ l
 | [],_=>by rw [ax_];exact Nat.zero_le _
 |t::ts,hn=>by
  obtain⟨h1,h2⟩:=ci_ hn
  have a:=sx_ hok h t h1
  have b:=qi_ hok h ts h2
  rw [ax_,or_,List.map_cons,List.map_cons,List.sum_cons]
  omega
end
structure SizeOk (A:Au) (sz:Nat→Nat):Prop where
 in_:SizeIn A sz
 lo:∀ (x:Nat) (t:Tr),x<A.f.length→Reach A (x:Int) t→sz x≤co_ t
theorem SizeOk.of {A:Au} (hok:AuOk A) {sz:Nat→Nat} (h1:SizeIn A sz) (h2:oy_ A sz):SizeOk A sz:=⟨h1,fun x t hx ht=>by
 have:=sx_ hok h2 t ht.n
 rwa [ht.s,Int.toNat_natCast] at this⟩
theorem SizeOk.best {A:Au} {sz:Nat→Nat} (h:SizeOk A sz) {x:Nat} {t:Tr} (hx:x<A.f.length) (hb:Best A (x:Int) t):co_ t=sz x:=by
 have h1:=h.lo x t hx hb.1
 have h2:=hb.1.z
 obtain⟨u,hu,e⟩:=h.in_.by_ x hx (by omega)
 have:=uc_ hb.1.z hu.z (hb.2 u hu)
 omega
theorem SizeOk.ex {A:Au} {sz:Nat→Nat} (h:SizeOk A sz) {x:Nat} (hx:x<A.f.length):sz x<4097↔ ∃ t,Best A (x:Int) t:=by
 constructor
 ·intro hlt
  obtain⟨t,ht,_⟩:=h.in_.by_ x hx (by omega)
  exact yk_ ht
 ·rintro⟨t,ht⟩
  have:=h.best hx ht
  have:=ht.1.z
  omega
section
variable {A:Au} {sz:Nat→Nat} {B:Nat→Tr} {s:Nat}
end
end Go.Mn
namespace Go.Proofs.Ytichhfbkhnimmaa
open Go Go.Dm
instance:GlobW:=⟨[]⟩
end Go.Proofs.Ytichhfbkhnimmaa
namespace Go.Proofs.Ytichhfbkhnimmaa
open Go Go.RowKit Go.PP Go.Dm
theorem sz3:sizeOfT Try.prog 3=some 1:=by kernel_rfl
theorem ag3:aggOf Try.prog 3=some false:=by kernel_rfl
theorem ze3:zeroT Try.prog 3=some (.int .i64 0):=by kernel_rfl
theorem nf3:(Try.prog.info? 3).map (fun i=>(i.zero,i.size,i.bytes))=some (some (.int .i64 0),1,8):=by kernel_rfl
theorem sz4:sizeOfT Try.prog 4=some 1:=by kernel_rfl
theorem ag4:aggOf Try.prog 4=some false:=by kernel_rfl
theorem ze4:zeroT Try.prog 4=some (.bool false):=by kernel_rfl
theorem nf4:(Try.prog.info? 4).map (fun i=>(i.zero,i.size,i.bytes))=some (some (.bool false),1,1):=by kernel_rfl
theorem un4:Try.prog.underlying 4=some .bool:=by kernel_rfl
theorem sz22:sizeOfT Try.prog 22=some 1:=by kernel_rfl
theorem ag22:aggOf Try.prog 22=some false:=by kernel_rfl
theorem ze22:zeroT Try.prog 22=some (.slice none 0 0):=by kernel_rfl
theorem nf22:(Try.prog.info? 22).map (fun i=>(i.zero,i.size,i.bytes))=some (some (.slice none 0 0),1,24):=by kernel_rfl
theorem un22:Try.prog.underlying 22=some (.slice 3):=by kernel_rfl
theorem sz23:sizeOfT Try.prog 23=some 1:=by kernel_rfl
theorem ag23:aggOf Try.prog 23=some false:=by kernel_rfl
theorem ze23:zeroT Try.prog 23=some (.slice none 0 0):=by kernel_rfl
theorem un23:Try.prog.underlying 23=some (.slice 4):=by kernel_rfl
theorem sz24:sizeOfT Try.prog 24=some 1:=by kernel_rfl
theorem ag24:aggOf Try.prog 24=some false:=by kernel_rfl
theorem un24:Try.prog.underlying 24=some (.slice 22):=by kernel_rfl
theorem sz26:sizeOfT Try.prog 26=some 3:=by kernel_rfl
theorem ag26:aggOf Try.prog 26=some true:=by kernel_rfl
theorem ze26:zeroT Try.prog 26=some (.agg #[.slice none 0 0,.slice none 0 0,.slice none 0 0]):=by kernel_rfl
theorem pl26 {fs:List Field} (h:Try.prog.underlying 26=some (.struct fs.toArray)):placesD Try.prog fs=some [(0,1),(1,1),(2,1)]:=by
 rw [Try.underlying26] at h
 simp only [Option.some.injEq,TypeDesc.struct.injEq] at h
 have h2:=congrArg Array.toList h
 simp only [List.toList_toArray] at h2
 subst h2
 simp only [placesD,sz22,sz23,sz24]
theorem acq:FieldAt Try.prog 26 0 0 1:=⟨_,_,Try.underlying26,rfl,rfl,by kernel_rfl,by kernel_rfl⟩
theorem abs:FieldAt Try.prog 26 1 1 1:=⟨_,_,Try.underlying26,rfl,rfl,by kernel_rfl,by kernel_rfl⟩
theorem z3_:FieldAt Try.prog 26 2 2 1:=⟨_,_,Try.underlying26,rfl,rfl,by kernel_rfl,by kernel_rfl⟩
theorem sz29:sizeOfT Try.prog 29=some 1:=by kernel_rfl
theorem ag29:aggOf Try.prog 29=some false:=by kernel_rfl
theorem sz33:sizeOfT Try.prog 33=some 1:=by kernel_rfl
theorem ag33:aggOf Try.prog 33=some false:=by kernel_rfl
theorem un33:Try.prog.underlying 33=some (.slice 3):=by kernel_rfl
theorem sz35:sizeOfT Try.prog 35=some 3:=by kernel_rfl
theorem ag35:aggOf Try.prog 35=some true:=by kernel_rfl
theorem ze35:zeroT Try.prog 35=some (.agg #[.slice none 0 0,.slice none 0 0,.slice none 0 0]):=by kernel_rfl
theorem pl35 {fs:List Field} (h:Try.prog.underlying 35=some (.struct fs.toArray)):placesD Try.prog fs=some [(0,1),(1,1),(2,1)]:=by
 rw [Try.underlying35] at h
 simp only [Option.some.injEq,TypeDesc.struct.injEq] at h
 have h2:=congrArg Array.toList h
 simp only [List.toList_toArray] at h2
 subst h2
 simp only [placesD,sz23,sz24,sz33]
theorem abm:FieldAt Try.prog 35 0 0 1:=⟨_,_,Try.underlying35,rfl,rfl,by kernel_rfl,by kernel_rfl⟩
theorem zv_:FieldAt Try.prog 35 1 1 1:=⟨_,_,Try.underlying35,rfl,rfl,by kernel_rfl,by kernel_rfl⟩
theorem acp:FieldAt Try.prog 35 2 2 1:=⟨_,_,Try.underlying35,rfl,rfl,by kernel_rfl,by kernel_rfl⟩
theorem sz42:sizeOfT Try.prog 42=some 1:=by kernel_rfl
theorem ag42:aggOf Try.prog 42=some false:=by kernel_rfl
theorem un42:Try.prog.underlying 42=some (.slice 50):=by kernel_rfl
theorem un45:Try.prog.underlying 45=some (.slice 52):=by kernel_rfl
theorem sz50:sizeOfT Try.prog 50=some 3:=by kernel_rfl
theorem ag50:aggOf Try.prog 50=some true:=by kernel_rfl
theorem ze50:zeroT Try.prog 50=some (.agg #[.int .i64 0,.int .i64 0,.int .i64 0]):=by kernel_rfl
theorem nf50:(Try.prog.info? 50).map (fun i=>(i.zero,i.size,i.bytes))=some (some (.agg #[.int .i64 0,.int .i64 0,.int .i64 0]),3,24):=by kernel_rfl
theorem pl50 {fs:List Field} (h:Try.prog.underlying 50=some (.struct fs.toArray)):placesD Try.prog fs=some [(0,1),(1,1),(2,1)]:=by
 rw [Try.underlying50] at h
 simp only [Option.some.injEq,TypeDesc.struct.injEq] at h
 have h2:=congrArg Array.toList h
 simp only [List.toList_toArray] at h2
 subst h2
 simp only [placesD,sz3]
theorem zz_:FieldAt Try.prog 50 0 0 1:=⟨_,_,Try.underlying50,rfl,rfl,by kernel_rfl,by kernel_rfl⟩
theorem ab5:FieldAt Try.prog 50 1 1 1:=⟨_,_,Try.underlying50,rfl,rfl,by kernel_rfl,by kernel_rfl⟩
theorem abn:FieldAt Try.prog 50 2 2 1:=⟨_,_,Try.underlying50,rfl,rfl,by kernel_rfl,by kernel_rfl⟩
theorem sz52:sizeOfT Try.prog 52=some 3:=by kernel_rfl
theorem ag52:aggOf Try.prog 52=some true:=by kernel_rfl
theorem ze52:zeroT Try.prog 52=some (.agg #[.int .i64 0,.int .i64 0,.int .i64 0]):=by kernel_rfl
theorem nf52:(Try.prog.info? 52).map (fun i=>(i.zero,i.size,i.bytes))=some (some (.agg #[.int .i64 0,.int .i64 0,.int .i64 0]),3,24):=by kernel_rfl
theorem pl52 {fs:List Field} (h:Try.prog.underlying 52=some (.struct fs.toArray)):placesD Try.prog fs=some [(0,1),(1,1),(2,1)]:=by
 rw [Try.underlying52] at h
 simp only [Option.some.injEq,TypeDesc.struct.injEq] at h
 have h2:=congrArg Array.toList h
 simp only [List.toList_toArray] at h2
 subst h2
 simp only [placesD,sz3]
theorem abk:FieldAt Try.prog 52 0 0 1:=⟨_,_,Try.underlying52,rfl,rfl,by kernel_rfl,by kernel_rfl⟩
theorem aa9:FieldAt Try.prog 52 1 1 1:=⟨_,_,Try.underlying52,rfl,rfl,by kernel_rfl,by kernel_rfl⟩
theorem ab0:FieldAt Try.prog 52 2 2 1:=⟨_,_,Try.underlying52,rfl,rfl,by kernel_rfl,by kernel_rfl⟩
theorem ze96:zeroT Try.prog 96=some (.agg #[.slice none 0 0]):=by kernel_rfl
theorem pl96 {fs:List Field} (h:Try.prog.underlying 96=some (.struct fs.toArray)):placesD Try.prog fs=some [(0,1)]:=by
 rw [Try.underlying96] at h
 simp only [Option.some.injEq,TypeDesc.struct.injEq] at h
 have h2:=congrArg Array.toList h
 simp only [List.toList_toArray] at h2
 subst h2
 simp only [placesD,sz22]
theorem aba:FieldAt Try.prog 96 0 0 1:=⟨_,_,Try.underlying96,rfl,rfl,by kernel_rfl,by kernel_rfl⟩
theorem sz98:sizeOfT Try.prog 98=some 1:=by kernel_rfl
theorem ag98:aggOf Try.prog 98=some false:=by kernel_rfl
theorem ze98:zeroT Try.prog 98=some (.nilFunc):=by kernel_rfl
theorem aam:sizeOfT Try.prog 101=some 2:=by kernel_rfl
theorem ae6:aggOf Try.prog 101=some true:=by kernel_rfl
theorem adz:zeroT Try.prog 101=some (.agg #[.int .i64 0,.int .i64 0]):=by kernel_rfl
theorem adb {fs:List Field} (h:Try.prog.underlying 101=some (.struct fs.toArray)):placesD Try.prog fs=some [(0,1),(1,1)]:=by
 rw [Try.underlying101] at h
 simp only [Option.some.injEq,TypeDesc.struct.injEq] at h
 have h2:=congrArg Array.toList h
 simp only [List.toList_toArray] at h2
 subst h2
 simp only [placesD,sz3]
theorem y4_:FieldAt Try.prog 101 0 0 1:=⟨_,_,Try.underlying101,rfl,rfl,by kernel_rfl,by kernel_rfl⟩
theorem y0_:FieldAt Try.prog 101 1 1 1:=⟨_,_,Try.underlying101,rfl,rfl,by kernel_rfl,by kernel_rfl⟩
theorem ac2:sizeOfT Try.prog 104=some 3:=by kernel_rfl
theorem ada:aggOf Try.prog 104=some true:=by kernel_rfl
theorem ac3:zeroT Try.prog 104=some (.agg #[.int .i64 0,.int .i64 0,.slice none 0 0]):=by kernel_rfl
theorem aff:(Try.prog.info? 104).map (fun i=>(i.zero,i.size,i.bytes))=some (some (.agg #[.int .i64 0,.int .i64 0,.slice none 0 0]),3,40):=by kernel_rfl
theorem ac6 {fs:List Field} (h:Try.prog.underlying 104=some (.struct fs.toArray)):placesD Try.prog fs=some [(0,2),(2,1)]:=by
 rw [Try.underlying104] at h
 simp only [Option.some.injEq,TypeDesc.struct.injEq] at h
 have h2:=congrArg Array.toList h
 simp only [List.toList_toArray] at h2
 subst h2
 simp only [placesD,aam,sz42]
theorem xt_:FieldAt Try.prog 104 0 0 2:=⟨_,_,Try.underlying104,rfl,rfl,by kernel_rfl,by kernel_rfl⟩
theorem xl_:FieldAt Try.prog 104 1 2 1:=⟨_,_,Try.underlying104,rfl,rfl,by kernel_rfl,by kernel_rfl⟩
theorem aeh:Try.prog.underlying 105=some (.slice 104):=by kernel_rfl
theorem ae4:sizeOfT Try.prog 150=some 1:=by kernel_rfl
theorem ad0:aggOf Try.prog 150=some false:=by kernel_rfl
theorem adl:zeroT Try.prog 150=some (.nilFunc):=by kernel_rfl
theorem adk:sizeOfT Try.prog 171=some 2:=by kernel_rfl
theorem adu:aggOf Try.prog 171=some true:=by kernel_rfl
theorem aey:zeroT Try.prog 171=some (.agg #[.int .i64 0,.int .i64 0]):=by kernel_rfl
theorem aej {fs:List Field} (h:Try.prog.underlying 171=some (.struct fs.toArray)):placesD Try.prog fs=some [(0,1),(1,1)]:=by
 rw [Try.underlying171] at h
 simp only [Option.some.injEq,TypeDesc.struct.injEq] at h
 have h2:=congrArg Array.toList h
 simp only [List.toList_toArray] at h2
 subst h2
 simp only [placesD,sz3]
instance:TyI Try.prog 3 false 1:=⟨ag3,sz3⟩
instance:TyZ Try.prog 3 (.int .i64 0):=⟨ze3⟩
instance:TyIn Try.prog 3 (.int .i64 0) 1 8:=⟨nf3⟩
instance:TyInt Try.prog 3 .i64:=⟨by kernel_rfl⟩
instance:TyI Try.prog 4 false 1:=⟨ag4,sz4⟩
instance:TyZ Try.prog 4 (.bool false):=⟨ze4⟩
instance:TyIn Try.prog 4 (.bool false) 1 1:=⟨nf4⟩
instance:TyBo Try.prog 4:=⟨un4⟩
instance:TyI Try.prog 22 false 1:=⟨ag22,sz22⟩
instance:TyZ Try.prog 22 (.slice none 0 0):=⟨ze22⟩
instance:TyIn Try.prog 22 (.slice none 0 0) 1 24:=⟨nf22⟩
instance:TySl Try.prog 22 3:=⟨un22⟩
instance:TyI Try.prog 23 false 1:=⟨ag23,sz23⟩
instance:TyZ Try.prog 23 (.slice none 0 0):=⟨ze23⟩
instance:TySl Try.prog 23 4:=⟨un23⟩
instance:TyI Try.prog 24 false 1:=⟨ag24,sz24⟩
instance:TySl Try.prog 24 22:=⟨un24⟩
instance:TyI Try.prog 26 true 3:=⟨ag26,sz26⟩
instance:TyZ Try.prog 26 (.agg #[.slice none 0 0,.slice none 0 0,.slice none 0 0]):=⟨ze26⟩
instance:TyPl Try.prog 26 [(0,1),(1,1),(2,1)]:=⟨_,Try.underlying26,pl26 Try.underlying26⟩
instance:TyFd Try.prog 26 0 0 1:=⟨acq⟩
instance:TyFd Try.prog 26 1 1 1:=⟨abs⟩
instance:TyFd Try.prog 26 2 2 1:=⟨z3_⟩
instance:TyI Try.prog 29 false 1:=⟨ag29,sz29⟩
instance:TyI Try.prog 33 false 1:=⟨ag33,sz33⟩
instance:TySl Try.prog 33 3:=⟨un33⟩
instance:TyI Try.prog 35 true 3:=⟨ag35,sz35⟩
instance:TyZ Try.prog 35 (.agg #[.slice none 0 0,.slice none 0 0,.slice none 0 0]):=⟨ze35⟩
instance:TyPl Try.prog 35 [(0,1),(1,1),(2,1)]:=⟨_,Try.underlying35,pl35 Try.underlying35⟩
instance:TyFd Try.prog 35 0 0 1:=⟨abm⟩
instance:TyFd Try.prog 35 1 1 1:=⟨zv_⟩
instance:TyFd Try.prog 35 2 2 1:=⟨acp⟩
instance:TyI Try.prog 42 false 1:=⟨ag42,sz42⟩
instance:TySl Try.prog 42 50:=⟨un42⟩
instance:TySl Try.prog 45 52:=⟨un45⟩
instance:TyI Try.prog 50 true 3:=⟨ag50,sz50⟩
instance:TyZ Try.prog 50 (.agg #[.int .i64 0,.int .i64 0,.int .i64 0]):=⟨ze50⟩
instance:TyIn Try.prog 50 (.agg #[.int .i64 0,.int .i64 0,.int .i64 0]) 3 24:=⟨nf50⟩
instance:TyPl Try.prog 50 [(0,1),(1,1),(2,1)]:=⟨_,Try.underlying50,pl50 Try.underlying50⟩
instance:TyFd Try.prog 50 0 0 1:=⟨zz_⟩
instance:TyFd Try.prog 50 1 1 1:=⟨ab5⟩
instance:TyFd Try.prog 50 2 2 1:=⟨abn⟩
instance:TyI Try.prog 52 true 3:=⟨ag52,sz52⟩
instance:TyZ Try.prog 52 (.agg #[.int .i64 0,.int .i64 0,.int .i64 0]):=⟨ze52⟩
instance:TyIn Try.prog 52 (.agg #[.int .i64 0,.int .i64 0,.int .i64 0]) 3 24:=⟨nf52⟩
instance:TyPl Try.prog 52 [(0,1),(1,1),(2,1)]:=⟨_,Try.underlying52,pl52 Try.underlying52⟩
instance:TyFd Try.prog 52 0 0 1:=⟨abk⟩
instance:TyFd Try.prog 52 1 1 1:=⟨aa9⟩
instance:TyFd Try.prog 52 2 2 1:=⟨ab0⟩
instance:TyZ Try.prog 96 (.agg #[.slice none 0 0]):=⟨ze96⟩
instance:TyPl Try.prog 96 [(0,1)]:=⟨_,Try.underlying96,pl96 Try.underlying96⟩
instance:TyFd Try.prog 96 0 0 1:=⟨aba⟩
instance:TyI Try.prog 98 false 1:=⟨ag98,sz98⟩
instance:TyZ Try.prog 98 (.nilFunc):=⟨ze98⟩
instance:TyI Try.prog 101 true 2:=⟨ae6,aam⟩
instance:TyZ Try.prog 101 (.agg #[.int .i64 0,.int .i64 0]):=⟨adz⟩
instance:TyPl Try.prog 101 [(0,1),(1,1)]:=⟨_,Try.underlying101,adb Try.underlying101⟩
instance:TyFd Try.prog 101 0 0 1:=⟨y4_⟩
instance:TyFd Try.prog 101 1 1 1:=⟨y0_⟩
instance:TyMap Try.prog 102 101 4:=⟨by kernel_rfl⟩
instance:TyI Try.prog 104 true 3:=⟨ada,ac2⟩
instance:TyZ Try.prog 104 (.agg #[.int .i64 0,.int .i64 0,.slice none 0 0]):=⟨ac3⟩
instance:TyIn Try.prog 104 (.agg #[.int .i64 0,.int .i64 0,.slice none 0 0]) 3 40:=⟨aff⟩
instance:TyPl Try.prog 104 [(0,2),(2,1)]:=⟨_,Try.underlying104,ac6 Try.underlying104⟩
instance:TyFd Try.prog 104 0 0 2:=⟨xt_⟩
instance:TyFd Try.prog 104 1 2 1:=⟨xl_⟩
instance:TySl Try.prog 105 104:=⟨aeh⟩
instance:TyI Try.prog 150 false 1:=⟨ad0,ae4⟩
instance:TyZ Try.prog 150 (.nilFunc):=⟨adl⟩
instance:TyMap Try.prog 156 3 3:=⟨by kernel_rfl⟩
instance:TyInt Try.prog 162 .u64:=⟨by kernel_rfl⟩
instance:TyMap Try.prog 169 171 3:=⟨by kernel_rfl⟩
instance:TyI Try.prog 171 true 2:=⟨adu,adk⟩
instance:TyZ Try.prog 171 (.agg #[.int .i64 0,.int .i64 0]):=⟨aey⟩
instance:TyPl Try.prog 171 [(0,1),(1,1)]:=⟨_,Try.underlying171,aej Try.underlying171⟩
theorem adn:Enters Try.prog 11:=fun args w=>by go_simp
instance:EntC Try.prog 11:=⟨adn⟩
theorem aet:Enters Try.prog 12:=fun args w=>by go_simp
instance:EntC Try.prog 12:=⟨aet⟩
theorem adg:Enters Try.prog 13:=fun args w=>by go_simp
instance:EntC Try.prog 13:=⟨adg⟩
theorem ady:Enters Try.prog 14:=fun args w=>by go_simp
instance:EntC Try.prog 14:=⟨ady⟩
theorem aez:Enters Try.prog 15:=fun args w=>by go_simp
instance:EntC Try.prog 15:=⟨aez⟩
theorem aed:Enters Try.prog 16:=fun args w=>by go_simp
instance:EntC Try.prog 16:=⟨aed⟩
theorem aei:Enters Try.prog 17:=fun args w=>by go_simp
instance:EntC Try.prog 17:=⟨aei⟩
theorem afg:Enters Try.prog 18:=fun args w=>by go_simp
instance:EntC Try.prog 18:=⟨afg⟩
theorem ac4:Enters Try.prog 20:=fun args w=>by go_simp
instance:EntC Try.prog 20:=⟨ac4⟩
theorem ad3:Enters Try.prog 23:=fun args w=>by go_simp
instance:EntC Try.prog 23:=⟨ad3⟩
theorem aex:Enters Try.prog 24:=fun args w=>by go_simp
instance:EntC Try.prog 24:=⟨aex⟩
theorem acy:Enters Try.prog 25:=fun args w=>by go_simp
instance:EntC Try.prog 25:=⟨acy⟩
theorem ac9:Enters Try.prog 26:=fun args w=>by go_simp
instance:EntC Try.prog 26:=⟨ac9⟩
theorem ad4:Enters Try.prog 27:=fun args w=>by go_simp
instance:EntC Try.prog 27:=⟨ad4⟩
theorem adq:Enters Try.prog 28:=fun args w=>by go_simp
instance:EntC Try.prog 28:=⟨adq⟩
theorem acw:Enters Try.prog 29:=fun args w=>by go_simp
instance:EntC Try.prog 29:=⟨acw⟩
theorem ad2:Enters Try.prog 32:=fun args w=>by go_simp
instance:EntC Try.prog 32:=⟨ad2⟩
theorem afh:Enters Try.prog 34:=fun args w=>by go_simp
instance:EntC Try.prog 34:=⟨afh⟩
theorem ad6:Enters Try.prog 46:=fun args w=>by go_simp
instance:EntC Try.prog 46:=⟨ad6⟩
theorem ae3:Enters Try.prog 47:=fun args w=>by go_simp
instance:EntC Try.prog 47:=⟨ae3⟩
theorem aew:Enters Try.prog 48:=fun args w=>by go_simp
instance:EntC Try.prog 48:=⟨aew⟩
theorem aeo:Enters Try.prog 49:=fun args w=>by go_simp
instance:EntC Try.prog 49:=⟨aeo⟩
theorem ae2:Enters Try.prog 50:=fun args w=>by go_simp
instance:EntC Try.prog 50:=⟨ae2⟩
theorem ads:Enters Try.prog 51:=fun args w=>by go_simp
instance:EntC Try.prog 51:=⟨ads⟩
theorem ad1:Enters Try.prog 52:=fun args w=>by go_simp
instance:EntC Try.prog 52:=⟨ad1⟩
theorem adc:Enters Try.prog 53:=fun args w=>by go_simp
instance:EntC Try.prog 53:=⟨adc⟩
theorem ae8:Enters Try.prog 54:=fun args w=>by go_simp
instance:EntC Try.prog 54:=⟨ae8⟩
theorem acx:Enters Try.prog 55:=fun args w=>by go_simp
instance:EntC Try.prog 55:=⟨acx⟩
theorem ac1:Enters Try.prog 56:=fun args w=>by go_simp
instance:EntC Try.prog 56:=⟨ac1⟩
theorem aek:Enters Try.prog 57:=fun args w=>by go_simp
instance:EntC Try.prog 57:=⟨aek⟩
theorem aea:Enters Try.prog 58:=fun args w=>by go_simp
instance:EntC Try.prog 58:=⟨aea⟩
theorem aec:Enters Try.prog 59:=fun args w=>by go_simp
instance:EntC Try.prog 59:=⟨aec⟩
theorem adv:Enters Try.prog 60:=fun args w=>by go_simp
instance:EntC Try.prog 60:=⟨adv⟩
theorem ade:Enters Try.prog 61:=fun args w=>by go_simp
instance:EntC Try.prog 61:=⟨ade⟩
theorem ae0:Enters Try.prog 62:=fun args w=>by go_simp
instance:EntC Try.prog 62:=⟨ae0⟩
theorem adw:Enters Try.prog 63:=fun args w=>by go_simp
instance:EntC Try.prog 63:=⟨adw⟩
theorem acu:Enters Try.prog 65:=fun args w=>by go_simp
instance:EntC Try.prog 65:=⟨acu⟩
theorem aes:Enters Try.prog 66:=fun args w=>by go_simp
instance:EntC Try.prog 66:=⟨aes⟩
theorem aeg:Enters Try.prog 67:=fun args w=>by go_simp
instance:EntC Try.prog 67:=⟨aeg⟩
theorem aep:Enters Try.prog 68:=fun args w=>by go_simp
instance:EntC Try.prog 68:=⟨aep⟩
theorem ad5:Enters Try.prog 69:=fun args w=>by go_simp
instance:EntC Try.prog 69:=⟨ad5⟩
theorem afe:Enters Try.prog 70:=fun args w=>by go_simp
instance:EntC Try.prog 70:=⟨afe⟩
theorem adr:Enters Try.prog 71:=fun args w=>by go_simp
instance:EntC Try.prog 71:=⟨adr⟩
theorem ac7:Enters Try.prog 72:=fun args w=>by go_simp
instance:EntC Try.prog 72:=⟨ac7⟩
theorem aeq:Enters Try.prog 76:=fun args w=>by go_simp
instance:EntC Try.prog 76:=⟨aeq⟩
theorem acz:Enters Try.prog 78:=fun args w=>by go_simp
instance:EntC Try.prog 78:=⟨acz⟩
theorem aef:Enters Try.prog 88:=fun args w=>by go_simp
instance:EntC Try.prog 88:=⟨aef⟩
theorem ae5:Enters Try.prog 89:=fun args w=>by go_simp
instance:EntC Try.prog 89:=⟨ae5⟩
theorem adt:Enters Try.prog 90:=fun args w=>by go_simp
instance:EntC Try.prog 90:=⟨adt⟩
theorem ae9:Enters Try.prog 91:=fun args w=>by go_simp
instance:EntC Try.prog 91:=⟨ae9⟩
theorem ac5:Enters Try.prog 92:=fun args w=>by go_simp
instance:EntC Try.prog 92:=⟨ac5⟩
theorem aeb:Enters Try.prog 93:=fun args w=>by go_simp
instance:EntC Try.prog 93:=⟨aeb⟩
theorem aen:Enters Try.prog 94:=fun args w=>by go_simp
instance:EntC Try.prog 94:=⟨aen⟩
theorem afa:Enters Try.prog 95:=fun args w=>by go_simp
instance:EntC Try.prog 95:=⟨afa⟩
theorem acv:Enters Try.prog 96:=fun args w=>by go_simp
instance:EntC Try.prog 96:=⟨acv⟩
theorem ae1:Enters Try.prog 97:=fun args w=>by go_simp
instance:EntC Try.prog 97:=⟨ae1⟩
theorem adi:Enters Try.prog 98:=fun args w=>by go_simp
instance:EntC Try.prog 98:=⟨adi⟩
theorem adp:Enters Try.prog 99:=fun args w=>by go_simp
instance:EntC Try.prog 99:=⟨adp⟩
theorem zy_:Enters Try.prog 100:=fun args w=>by go_simp
instance:EntC Try.prog 100:=⟨zy_⟩
theorem acn:Enters Try.prog 101:=fun args w=>by go_simp
instance:EntC Try.prog 101:=⟨acn⟩
theorem aa4:Enters Try.prog 102:=fun args w=>by go_simp
instance:EntC Try.prog 102:=⟨aa4⟩
theorem z2_:Enters Try.prog 103:=fun args w=>by go_simp
instance:EntC Try.prog 103:=⟨z2_⟩
theorem aal:Enters Try.prog 104:=fun args w=>by go_simp
instance:EntC Try.prog 104:=⟨aal⟩
theorem aa7:Enters Try.prog 105:=fun args w=>by go_simp
instance:EntC Try.prog 105:=⟨aa7⟩
theorem zt_:Enters Try.prog 106:=fun args w=>by go_simp
instance:EntC Try.prog 106:=⟨zt_⟩
theorem aa3:Enters Try.prog 107:=fun args w=>by go_simp
instance:EntC Try.prog 107:=⟨aa3⟩
theorem aaj:Enters Try.prog 110:=fun args w=>by go_simp
instance:EntC Try.prog 110:=⟨aaj⟩
theorem abd:Enters Try.prog 116:=fun args w=>by go_simp
instance:EntC Try.prog 116:=⟨abd⟩
theorem abl:Enters Try.prog 117:=fun args w=>by go_simp
instance:EntC Try.prog 117:=⟨abl⟩
theorem ack:Enters Try.prog 118:=fun args w=>by go_simp
instance:EntC Try.prog 118:=⟨ack⟩
theorem aak:Enters Try.prog 119:=fun args w=>by go_simp
instance:EntC Try.prog 119:=⟨aak⟩
theorem z8_:Enters Try.prog 120:=fun args w=>by go_simp
instance:EntC Try.prog 120:=⟨z8_⟩
theorem aa1:Enters Try.prog 121:=fun args w=>by go_simp
instance:EntC Try.prog 121:=⟨aa1⟩
theorem aas:Enters Try.prog 122:=fun args w=>by go_simp
instance:EntC Try.prog 122:=⟨aas⟩
theorem aaf:Enters Try.prog 123:=fun args w=>by go_simp
instance:EntC Try.prog 123:=⟨aaf⟩
theorem acb:Enters Try.prog 124:=fun args w=>by go_simp
instance:EntC Try.prog 124:=⟨acb⟩
theorem aac:Enters Try.prog 126:=fun args w=>by go_simp
instance:EntC Try.prog 126:=⟨aac⟩
theorem ace:Enters Try.prog 130:=fun args w=>by go_simp
instance:EntC Try.prog 130:=⟨ace⟩
theorem abj:Enters Try.prog 131:=fun args w=>by go_simp
instance:EntC Try.prog 131:=⟨abj⟩
theorem abe:Enters Try.prog 133:=fun args w=>by go_simp
instance:EntC Try.prog 133:=⟨abe⟩
instance:TyPtr Try.prog 29 96:=⟨by kernel_rfl⟩
end Go.Proofs.Ytichhfbkhnimmaa
set_option maxHeartbeats 4000000
set_option maxRecDepth 8000
namespace Go.Proofs.Ytichhfbkhnimmaa
open Go Go.RowKit Go.PP Go.Dm Go.Rt
end Go.Proofs.Ytichhfbkhnimmaa
namespace Go.Proofs.Ytichhfbkhnimmaa
open Go Go.RowKit Go.PP Go.Dm Go.Rt
end Go.Proofs.Ytichhfbkhnimmaa
