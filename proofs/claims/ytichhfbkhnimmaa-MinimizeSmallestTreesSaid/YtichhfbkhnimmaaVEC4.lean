/- Facts on the types of the seat, as instances. No condition. -/
import Derived.Test.YtichhfbkhnimmaaProg
import Derived.Test.YtichhfbkhnimmaaCheckedPd
import Derived.Test.YtichhfbkhnimmaaCheckedPe
import Derived.Test.YtichhfbkhnimmaaVBG
set_option linter.unusedSimpArgs false
set_option linter.unusedVariables false
namespace Go.Proofs.Ytichhfbkhnimmaa
open Go Go.RowKit Go.PP Go.Dm
theorem sz0:sizeOfT Try.prog 0=some 1:=by kernel_rfl
theorem sz3:sizeOfT Try.prog 3=some 1:=by kernel_rfl
theorem ag3:aggOf Try.prog 3=some false:=by kernel_rfl
theorem ze3:zeroT Try.prog 3=some (.int .i64 0):=by kernel_rfl
theorem nf3:(Try.prog.info? 3).map (fun i=>(i.zero,i.size,i.bytes))=some (some (.int .i64 0),1,8):=by kernel_rfl
theorem sz4:sizeOfT Try.prog 4=some 1:=by kernel_rfl
theorem ag4:aggOf Try.prog 4=some false:=by kernel_rfl
theorem ze4:zeroT Try.prog 4=some (.bool false):=by kernel_rfl
theorem nf4:(Try.prog.info? 4).map (fun i=>(i.zero,i.size,i.bytes))=some (some (.bool false),1,1):=by kernel_rfl
theorem un4:Try.prog.underlying 4=some .bool:=by kernel_rfl
theorem sz22:sizeOfT Try.prog 22=some 1:=by kernel_rfl
theorem ag22:aggOf Try.prog 22=some false:=by kernel_rfl
theorem ze22:zeroT Try.prog 22=some (.slice none 0 0):=by kernel_rfl
theorem nf22:(Try.prog.info? 22).map (fun i=>(i.zero,i.size,i.bytes))=some (some (.slice none 0 0),1,24):=by kernel_rfl
theorem un22:Try.prog.underlying 22=some (.slice 3):=by kernel_rfl
theorem sz23:sizeOfT Try.prog 23=some 1:=by kernel_rfl
theorem ag23:aggOf Try.prog 23=some false:=by kernel_rfl
theorem ze23:zeroT Try.prog 23=some (.slice none 0 0):=by kernel_rfl
theorem un23:Try.prog.underlying 23=some (.slice 4):=by kernel_rfl
theorem sz24:sizeOfT Try.prog 24=some 1:=by kernel_rfl
theorem ag24:aggOf Try.prog 24=some false:=by kernel_rfl
theorem un24:Try.prog.underlying 24=some (.slice 22):=by kernel_rfl
theorem sz26:sizeOfT Try.prog 26=some 3:=by kernel_rfl
theorem ag26:aggOf Try.prog 26=some true:=by kernel_rfl
theorem y6_:FieldAt Try.prog 26 0 0 1:=⟨_,_,Try.underlying26,rfl,rfl,by kernel_rfl,by kernel_rfl⟩
theorem y0_:FieldAt Try.prog 26 1 1 1:=⟨_,_,Try.underlying26,rfl,rfl,by kernel_rfl,by kernel_rfl⟩
theorem yw_:FieldAt Try.prog 26 2 2 1:=⟨_,_,Try.underlying26,rfl,rfl,by kernel_rfl,by kernel_rfl⟩
theorem sz29:sizeOfT Try.prog 29=some 1:=by kernel_rfl
theorem ag29:aggOf Try.prog 29=some false:=by kernel_rfl
theorem sz33:sizeOfT Try.prog 33=some 1:=by kernel_rfl
theorem ag33:aggOf Try.prog 33=some false:=by kernel_rfl
theorem un33:Try.prog.underlying 33=some (.slice 3):=by kernel_rfl
theorem sz35:sizeOfT Try.prog 35=some 3:=by kernel_rfl
theorem ag35:aggOf Try.prog 35=some true:=by kernel_rfl
theorem ze35:zeroT Try.prog 35=some (.agg #[.slice none 0 0,.slice none 0 0,.slice none 0 0]):=by kernel_rfl
theorem pl35 {fs:List Field} (h:Try.prog.underlying 35=some (.struct fs.toArray)):placesD Try.prog fs=some [(0,1),(1,1),(2,1)]:=by
 rw [Try.underlying35] at h
 simp only [Option.some.injEq,TypeDesc.struct.injEq] at h
 have h2:=congrArg Array.toList h
 simp only [List.toList_toArray] at h2
 subst h2
 simp only [placesD,sz23,sz24,sz33]
theorem aae:FieldAt Try.prog 35 0 0 1:=⟨_,_,Try.underlying35,rfl,rfl,by kernel_rfl,by kernel_rfl⟩
theorem zg_:FieldAt Try.prog 35 1 1 1:=⟨_,_,Try.underlying35,rfl,rfl,by kernel_rfl,by kernel_rfl⟩
theorem aa8:FieldAt Try.prog 35 2 2 1:=⟨_,_,Try.underlying35,rfl,rfl,by kernel_rfl,by kernel_rfl⟩
theorem sz42:sizeOfT Try.prog 42=some 1:=by kernel_rfl
theorem ag42:aggOf Try.prog 42=some false:=by kernel_rfl
theorem un42:Try.prog.underlying 42=some (.slice 50):=by kernel_rfl
theorem sz50:sizeOfT Try.prog 50=some 3:=by kernel_rfl
theorem ag50:aggOf Try.prog 50=some true:=by kernel_rfl
theorem ze50:zeroT Try.prog 50=some (.agg #[.int .i64 0,.int .i64 0,.int .i64 0]):=by kernel_rfl
theorem nf50:(Try.prog.info? 50).map (fun i=>(i.zero,i.size,i.bytes))=some (some (.agg #[.int .i64 0,.int .i64 0,.int .i64 0]),3,24):=by kernel_rfl
theorem pl50 {fs:List Field} (h:Try.prog.underlying 50=some (.struct fs.toArray)):placesD Try.prog fs=some [(0,1),(1,1),(2,1)]:=by
 rw [Try.underlying50] at h
 simp only [Option.some.injEq,TypeDesc.struct.injEq] at h
 have h2:=congrArg Array.toList h
 simp only [List.toList_toArray] at h2
 subst h2
 simp only [placesD,sz3]
theorem zr_:FieldAt Try.prog 50 0 0 1:=⟨_,_,Try.underlying50,rfl,rfl,by kernel_rfl,by kernel_rfl⟩
theorem aa2:FieldAt Try.prog 50 1 1 1:=⟨_,_,Try.underlying50,rfl,rfl,by kernel_rfl,by kernel_rfl⟩
theorem y5_:FieldAt Try.prog 50 2 2 1:=⟨_,_,Try.underlying50,rfl,rfl,by kernel_rfl,by kernel_rfl⟩
theorem sz72:sizeOfT Try.prog 72=some 1:=by kernel_rfl
theorem ag72:aggOf Try.prog 72=some false:=by kernel_rfl
theorem un72:Try.prog.underlying 72=some (.slice 74):=by kernel_rfl
theorem sz74:sizeOfT Try.prog 74=some 2:=by kernel_rfl
theorem ag74:aggOf Try.prog 74=some true:=by kernel_rfl
theorem ze74:zeroT Try.prog 74=some (.agg #[.int .i64 0,.slice none 0 0]):=by kernel_rfl
theorem nf74:(Try.prog.info? 74).map (fun i=>(i.zero,i.size,i.bytes))=some (some (.agg #[.int .i64 0,.slice none 0 0]),2,32):=by kernel_rfl
theorem pl74 {fs:List Field} (h:Try.prog.underlying 74=some (.struct fs.toArray)):placesD Try.prog fs=some [(0,1),(1,1)]:=by
 rw [Try.underlying74] at h
 simp only [Option.some.injEq,TypeDesc.struct.injEq] at h
 have h2:=congrArg Array.toList h
 simp only [List.toList_toArray] at h2
 subst h2
 simp only [placesD,sz3,sz72]
theorem zz_:FieldAt Try.prog 74 0 0 1:=⟨_,_,Try.underlying74,rfl,rfl,by kernel_rfl,by kernel_rfl⟩
theorem aak:FieldAt Try.prog 74 1 1 1:=⟨_,_,Try.underlying74,rfl,rfl,by kernel_rfl,by kernel_rfl⟩
theorem sz76:sizeOfT Try.prog 76=some 1:=by kernel_rfl
theorem ag76:aggOf Try.prog 76=some false:=by kernel_rfl
theorem un76:Try.prog.underlying 76=some (.slice 78):=by kernel_rfl
theorem sz78:sizeOfT Try.prog 78=some 2:=by kernel_rfl
theorem ag78:aggOf Try.prog 78=some true:=by kernel_rfl
theorem ze78:zeroT Try.prog 78=some (.agg #[.int .i64 0,.slice none 0 0]):=by kernel_rfl
theorem nf78:(Try.prog.info? 78).map (fun i=>(i.zero,i.size,i.bytes))=some (some (.agg #[.int .i64 0,.slice none 0 0]),2,32):=by kernel_rfl
theorem pl78 {fs:List Field} (h:Try.prog.underlying 78=some (.struct fs.toArray)):placesD Try.prog fs=some [(0,1),(1,1)]:=by
 rw [Try.underlying78] at h
 simp only [Option.some.injEq,TypeDesc.struct.injEq] at h
 have h2:=congrArg Array.toList h
 simp only [List.toList_toArray] at h2
 subst h2
 simp only [placesD,sz3,sz76]
theorem abg:FieldAt Try.prog 78 0 0 1:=⟨_,_,Try.underlying78,rfl,rfl,by kernel_rfl,by kernel_rfl⟩
theorem aa0:FieldAt Try.prog 78 1 1 1:=⟨_,_,Try.underlying78,rfl,rfl,by kernel_rfl,by kernel_rfl⟩
theorem ze96:zeroT Try.prog 96=some (.agg #[.slice none 0 0]):=by kernel_rfl
theorem pl96 {fs:List Field} (h:Try.prog.underlying 96=some (.struct fs.toArray)):placesD Try.prog fs=some [(0,1)]:=by
 rw [Try.underlying96] at h
 simp only [Option.some.injEq,TypeDesc.struct.injEq] at h
 have h2:=congrArg Array.toList h
 simp only [List.toList_toArray] at h2
 subst h2
 simp only [placesD,sz22]
theorem zc_:FieldAt Try.prog 96 0 0 1:=⟨_,_,Try.underlying96,rfl,rfl,by kernel_rfl,by kernel_rfl⟩
theorem sz98:sizeOfT Try.prog 98=some 1:=by kernel_rfl
theorem ag98:aggOf Try.prog 98=some false:=by kernel_rfl
theorem ze98:zeroT Try.prog 98=some (.nilFunc):=by kernel_rfl
theorem aav:sizeOfT Try.prog 101=some 2:=by kernel_rfl
theorem acb:aggOf Try.prog 101=some true:=by kernel_rfl
theorem ac3:zeroT Try.prog 101=some (.agg #[.int .i64 0,.int .i64 0]):=by kernel_rfl
theorem aco {fs:List Field} (h:Try.prog.underlying 101=some (.struct fs.toArray)):placesD Try.prog fs=some [(0,1),(1,1)]:=by
 rw [Try.underlying101] at h
 simp only [Option.some.injEq,TypeDesc.struct.injEq] at h
 have h2:=congrArg Array.toList h
 simp only [List.toList_toArray] at h2
 subst h2
 simp only [placesD,sz3]
theorem yp_:FieldAt Try.prog 101 0 0 1:=⟨_,_,Try.underlying101,rfl,rfl,by kernel_rfl,by kernel_rfl⟩
theorem w3_:FieldAt Try.prog 101 1 1 1:=⟨_,_,Try.underlying101,rfl,rfl,by kernel_rfl,by kernel_rfl⟩
theorem ado:sizeOfT Try.prog 104=some 3:=by kernel_rfl
theorem aeb:aggOf Try.prog 104=some true:=by kernel_rfl
theorem acj:zeroT Try.prog 104=some (.agg #[.int .i64 0,.int .i64 0,.slice none 0 0]):=by kernel_rfl
theorem acn:(Try.prog.info? 104).map (fun i=>(i.zero,i.size,i.bytes))=some (some (.agg #[.int .i64 0,.int .i64 0,.slice none 0 0]),3,40):=by kernel_rfl
theorem acr {fs:List Field} (h:Try.prog.underlying 104=some (.struct fs.toArray)):placesD Try.prog fs=some [(0,2),(2,1)]:=by
 rw [Try.underlying104] at h
 simp only [Option.some.injEq,TypeDesc.struct.injEq] at h
 have h2:=congrArg Array.toList h
 simp only [List.toList_toArray] at h2
 subst h2
 simp only [placesD,aav,sz42]
theorem x3_:FieldAt Try.prog 104 0 0 2:=⟨_,_,Try.underlying104,rfl,rfl,by kernel_rfl,by kernel_rfl⟩
theorem x1_:FieldAt Try.prog 104 1 2 1:=⟨_,_,Try.underlying104,rfl,rfl,by kernel_rfl,by kernel_rfl⟩
theorem ab0:Try.prog.underlying 105=some (.slice 104):=by kernel_rfl
theorem ad4:sizeOfT Try.prog 150=some 1:=by kernel_rfl
theorem acx:aggOf Try.prog 150=some false:=by kernel_rfl
theorem acg:zeroT Try.prog 150=some (.nilFunc):=by kernel_rfl
theorem ac5:sizeOfT Try.prog 171=some 2:=by kernel_rfl
theorem adi:aggOf Try.prog 171=some true:=by kernel_rfl
theorem ab9:zeroT Try.prog 171=some (.agg #[.int .i64 0,.int .i64 0]):=by kernel_rfl
theorem ach {fs:List Field} (h:Try.prog.underlying 171=some (.struct fs.toArray)):placesD Try.prog fs=some [(0,1),(1,1)]:=by
 rw [Try.underlying171] at h
 simp only [Option.some.injEq,TypeDesc.struct.injEq] at h
 have h2:=congrArg Array.toList h
 simp only [List.toList_toArray] at h2
 subst h2
 simp only [placesD,sz3]
instance:TyI Try.prog 3 false 1:=⟨ag3,sz3⟩
instance:TyZ Try.prog 3 (.int .i64 0):=⟨ze3⟩
instance:TyIn Try.prog 3 (.int .i64 0) 1 8:=⟨nf3⟩
instance:TyInt Try.prog 3 .i64:=⟨by kernel_rfl⟩
instance:TyI Try.prog 4 false 1:=⟨ag4,sz4⟩
instance:TyZ Try.prog 4 (.bool false):=⟨ze4⟩
instance:TyIn Try.prog 4 (.bool false) 1 1:=⟨nf4⟩
instance:TyBo Try.prog 4:=⟨un4⟩
instance:TyI Try.prog 22 false 1:=⟨ag22,sz22⟩
instance:TyZ Try.prog 22 (.slice none 0 0):=⟨ze22⟩
instance:TyIn Try.prog 22 (.slice none 0 0) 1 24:=⟨nf22⟩
instance:TySl Try.prog 22 3:=⟨un22⟩
instance:TyI Try.prog 23 false 1:=⟨ag23,sz23⟩
instance:TyZ Try.prog 23 (.slice none 0 0):=⟨ze23⟩
instance:TySl Try.prog 23 4:=⟨un23⟩
instance:TyI Try.prog 24 false 1:=⟨ag24,sz24⟩
instance:TySl Try.prog 24 22:=⟨un24⟩
instance:TyI Try.prog 26 true 3:=⟨ag26,sz26⟩
instance:TyFd Try.prog 26 0 0 1:=⟨y6_⟩
instance:TyFd Try.prog 26 1 1 1:=⟨y0_⟩
instance:TyFd Try.prog 26 2 2 1:=⟨yw_⟩
instance:TyI Try.prog 29 false 1:=⟨ag29,sz29⟩
instance:TyI Try.prog 33 false 1:=⟨ag33,sz33⟩
instance:TySl Try.prog 33 3:=⟨un33⟩
instance:TyI Try.prog 35 true 3:=⟨ag35,sz35⟩
instance:TyZ Try.prog 35 (.agg #[.slice none 0 0,.slice none 0 0,.slice none 0 0]):=⟨ze35⟩
instance:TyPl Try.prog 35 [(0,1),(1,1),(2,1)]:=⟨_,Try.underlying35,pl35 Try.underlying35⟩
instance:TyFd Try.prog 35 0 0 1:=⟨aae⟩
instance:TyFd Try.prog 35 1 1 1:=⟨zg_⟩
instance:TyFd Try.prog 35 2 2 1:=⟨aa8⟩
instance:TyI Try.prog 42 false 1:=⟨ag42,sz42⟩
instance:TySl Try.prog 42 50:=⟨un42⟩
instance:TyI Try.prog 50 true 3:=⟨ag50,sz50⟩
instance:TyZ Try.prog 50 (.agg #[.int .i64 0,.int .i64 0,.int .i64 0]):=⟨ze50⟩
instance:TyIn Try.prog 50 (.agg #[.int .i64 0,.int .i64 0,.int .i64 0]) 3 24:=⟨nf50⟩
instance:TyPl Try.prog 50 [(0,1),(1,1),(2,1)]:=⟨_,Try.underlying50,pl50 Try.underlying50⟩
instance:TyFd Try.prog 50 0 0 1:=⟨zr_⟩
instance:TyFd Try.prog 50 1 1 1:=⟨aa2⟩
instance:TyFd Try.prog 50 2 2 1:=⟨y5_⟩
instance:TyI Try.prog 72 false 1:=⟨ag72,sz72⟩
instance:TySl Try.prog 72 74:=⟨un72⟩
instance:TyI Try.prog 74 true 2:=⟨ag74,sz74⟩
instance:TyZ Try.prog 74 (.agg #[.int .i64 0,.slice none 0 0]):=⟨ze74⟩
instance:TyIn Try.prog 74 (.agg #[.int .i64 0,.slice none 0 0]) 2 32:=⟨nf74⟩
instance:TyPl Try.prog 74 [(0,1),(1,1)]:=⟨_,Try.underlying74,pl74 Try.underlying74⟩
instance:TyFd Try.prog 74 0 0 1:=⟨zz_⟩
instance:TyFd Try.prog 74 1 1 1:=⟨aak⟩
instance:TyI Try.prog 76 false 1:=⟨ag76,sz76⟩
instance:TySl Try.prog 76 78:=⟨un76⟩
instance:TyI Try.prog 78 true 2:=⟨ag78,sz78⟩
instance:TyZ Try.prog 78 (.agg #[.int .i64 0,.slice none 0 0]):=⟨ze78⟩
instance:TyIn Try.prog 78 (.agg #[.int .i64 0,.slice none 0 0]) 2 32:=⟨nf78⟩
instance:TyPl Try.prog 78 [(0,1),(1,1)]:=⟨_,Try.underlying78,pl78 Try.underlying78⟩
instance:TyFd Try.prog 78 0 0 1:=⟨abg⟩
instance:TyFd Try.prog 78 1 1 1:=⟨aa0⟩
instance:TyZ Try.prog 96 (.agg #[.slice none 0 0]):=⟨ze96⟩
instance:TyPl Try.prog 96 [(0,1)]:=⟨_,Try.underlying96,pl96 Try.underlying96⟩
instance:TyFd Try.prog 96 0 0 1:=⟨zc_⟩
instance:TyI Try.prog 98 false 1:=⟨ag98,sz98⟩
instance:TyZ Try.prog 98 (.nilFunc):=⟨ze98⟩
instance:TyI Try.prog 101 true 2:=⟨acb,aav⟩
instance:TyZ Try.prog 101 (.agg #[.int .i64 0,.int .i64 0]):=⟨ac3⟩
instance:TyPl Try.prog 101 [(0,1),(1,1)]:=⟨_,Try.underlying101,aco Try.underlying101⟩
instance:TyFd Try.prog 101 0 0 1:=⟨yp_⟩
instance:TyFd Try.prog 101 1 1 1:=⟨w3_⟩
instance:TyMap Try.prog 102 101 4:=⟨by kernel_rfl⟩
instance:TyI Try.prog 104 true 3:=⟨aeb,ado⟩
instance:TyZ Try.prog 104 (.agg #[.int .i64 0,.int .i64 0,.slice none 0 0]):=⟨acj⟩
instance:TyIn Try.prog 104 (.agg #[.int .i64 0,.int .i64 0,.slice none 0 0]) 3 40:=⟨acn⟩
instance:TyPl Try.prog 104 [(0,2),(2,1)]:=⟨_,Try.underlying104,acr Try.underlying104⟩
instance:TyFd Try.prog 104 0 0 2:=⟨x3_⟩
instance:TyFd Try.prog 104 1 2 1:=⟨x1_⟩
instance:TySl Try.prog 105 104:=⟨ab0⟩
instance:TyI Try.prog 150 false 1:=⟨acx,ad4⟩
instance:TyZ Try.prog 150 (.nilFunc):=⟨acg⟩
instance:TyMap Try.prog 156 3 3:=⟨by kernel_rfl⟩
instance:TyInt Try.prog 162 .u64:=⟨by kernel_rfl⟩
instance:TyMap Try.prog 169 171 3:=⟨by kernel_rfl⟩
instance:TyI Try.prog 171 true 2:=⟨adi,ac5⟩
instance:TyZ Try.prog 171 (.agg #[.int .i64 0,.int .i64 0]):=⟨ab9⟩
instance:TyPl Try.prog 171 [(0,1),(1,1)]:=⟨_,Try.underlying171,ach Try.underlying171⟩
theorem ad3:Enters Try.prog 11:=fun args w=>by go_simp
instance:EntC Try.prog 11:=⟨ad3⟩
theorem adr:Enters Try.prog 12:=fun args w=>by go_simp
instance:EntC Try.prog 12:=⟨adr⟩
theorem ade:Enters Try.prog 13:=fun args w=>by go_simp
instance:EntC Try.prog 13:=⟨ade⟩
theorem abx:Enters Try.prog 14:=fun args w=>by go_simp
instance:EntC Try.prog 14:=⟨abx⟩
theorem adw:Enters Try.prog 15:=fun args w=>by go_simp
instance:EntC Try.prog 15:=⟨adw⟩
theorem adq:Enters Try.prog 17:=fun args w=>by go_simp
instance:EntC Try.prog 17:=⟨adq⟩
theorem aea:Enters Try.prog 18:=fun args w=>by go_simp
instance:EntC Try.prog 18:=⟨aea⟩
theorem abz:Enters Try.prog 19:=fun args w=>by go_simp
instance:EntC Try.prog 19:=⟨abz⟩
theorem aec:Enters Try.prog 20:=fun args w=>by go_simp
instance:EntC Try.prog 20:=⟨aec⟩
theorem ab1:Enters Try.prog 24:=fun args w=>by go_simp
instance:EntC Try.prog 24:=⟨ab1⟩
theorem ac9:Enters Try.prog 34:=fun args w=>by go_simp
instance:EntC Try.prog 34:=⟨ac9⟩
theorem ac4:Enters Try.prog 37:=fun args w=>by go_simp
instance:EntC Try.prog 37:=⟨ac4⟩
theorem ac2:Enters Try.prog 39:=fun args w=>by go_simp
instance:EntC Try.prog 39:=⟨ac2⟩
theorem adt:Enters Try.prog 42:=fun args w=>by go_simp
instance:EntC Try.prog 42:=⟨adt⟩
theorem acq:Enters Try.prog 43:=fun args w=>by go_simp
instance:EntC Try.prog 43:=⟨acq⟩
theorem ab6:Enters Try.prog 44:=fun args w=>by go_simp
instance:EntC Try.prog 44:=⟨ab6⟩
theorem adh:Enters Try.prog 45:=fun args w=>by go_simp
instance:EntC Try.prog 45:=⟨adh⟩
theorem adz:Enters Try.prog 46:=fun args w=>by go_simp
instance:EntC Try.prog 46:=⟨adz⟩
theorem ab8:Enters Try.prog 47:=fun args w=>by go_simp
instance:EntC Try.prog 47:=⟨ab8⟩
theorem acs:Enters Try.prog 48:=fun args w=>by go_simp
instance:EntC Try.prog 48:=⟨acs⟩
theorem adk:Enters Try.prog 49:=fun args w=>by go_simp
instance:EntC Try.prog 49:=⟨adk⟩
theorem ab4:Enters Try.prog 50:=fun args w=>by go_simp
instance:EntC Try.prog 50:=⟨ab4⟩
theorem ad5:Enters Try.prog 52:=fun args w=>by go_simp
instance:EntC Try.prog 52:=⟨ad5⟩
theorem abr:Enters Try.prog 53:=fun args w=>by go_simp
instance:EntC Try.prog 53:=⟨abr⟩
theorem ack:Enters Try.prog 54:=fun args w=>by go_simp
instance:EntC Try.prog 54:=⟨ack⟩
theorem abu:Enters Try.prog 55:=fun args w=>by go_simp
instance:EntC Try.prog 55:=⟨abu⟩
theorem acf:Enters Try.prog 56:=fun args w=>by go_simp
instance:EntC Try.prog 56:=⟨acf⟩
theorem ac6:Enters Try.prog 59:=fun args w=>by go_simp
instance:EntC Try.prog 59:=⟨ac6⟩
theorem ab2:Enters Try.prog 68:=fun args w=>by go_simp
instance:EntC Try.prog 68:=⟨ab2⟩
theorem adl:Enters Try.prog 69:=fun args w=>by go_simp
instance:EntC Try.prog 69:=⟨adl⟩
theorem acl:Enters Try.prog 70:=fun args w=>by go_simp
instance:EntC Try.prog 70:=⟨acl⟩
theorem adm:Enters Try.prog 71:=fun args w=>by go_simp
instance:EntC Try.prog 71:=⟨adm⟩
theorem acp:Enters Try.prog 72:=fun args w=>by go_simp
instance:EntC Try.prog 72:=⟨acp⟩
theorem acy:Enters Try.prog 74:=fun args w=>by go_simp
instance:EntC Try.prog 74:=⟨acy⟩
theorem ada:Enters Try.prog 75:=fun args w=>by go_simp
instance:EntC Try.prog 75:=⟨ada⟩
theorem acm:Enters Try.prog 76:=fun args w=>by go_simp
instance:EntC Try.prog 76:=⟨acm⟩
theorem ab3:Enters Try.prog 78:=fun args w=>by go_simp
instance:EntC Try.prog 78:=⟨ab3⟩
theorem ac0:Enters Try.prog 79:=fun args w=>by go_simp
instance:EntC Try.prog 79:=⟨ac0⟩
theorem aed:Enters Try.prog 80:=fun args w=>by go_simp
instance:EntC Try.prog 80:=⟨aed⟩
theorem ad1:Enters Try.prog 81:=fun args w=>by go_simp
instance:EntC Try.prog 81:=⟨ad1⟩
theorem aee:Enters Try.prog 82:=fun args w=>by go_simp
instance:EntC Try.prog 82:=⟨aee⟩
theorem abn:Enters Try.prog 83:=fun args w=>by go_simp
instance:EntC Try.prog 83:=⟨abn⟩
theorem abq:Enters Try.prog 84:=fun args w=>by go_simp
instance:EntC Try.prog 84:=⟨abq⟩
theorem adb:Enters Try.prog 86:=fun args w=>by go_simp
instance:EntC Try.prog 86:=⟨adb⟩
theorem ad0:Enters Try.prog 88:=fun args w=>by go_simp
instance:EntC Try.prog 88:=⟨ad0⟩
theorem abs:Enters Try.prog 89:=fun args w=>by go_simp
instance:EntC Try.prog 89:=⟨abs⟩
theorem abv:Enters Try.prog 90:=fun args w=>by go_simp
instance:EntC Try.prog 90:=⟨abv⟩
theorem acv:Enters Try.prog 91:=fun args w=>by go_simp
instance:EntC Try.prog 91:=⟨acv⟩
theorem adx:Enters Try.prog 92:=fun args w=>by go_simp
instance:EntC Try.prog 92:=⟨adx⟩
theorem ad7:Enters Try.prog 93:=fun args w=>by go_simp
instance:EntC Try.prog 93:=⟨ad7⟩
theorem acd:Enters Try.prog 94:=fun args w=>by go_simp
instance:EntC Try.prog 94:=⟨acd⟩
theorem aci:Enters Try.prog 95:=fun args w=>by go_simp
instance:EntC Try.prog 95:=⟨aci⟩
theorem adu:Enters Try.prog 96:=fun args w=>by go_simp
instance:EntC Try.prog 96:=⟨adu⟩
theorem abp:Enters Try.prog 97:=fun args w=>by go_simp
instance:EntC Try.prog 97:=⟨abp⟩
theorem aca:Enters Try.prog 98:=fun args w=>by go_simp
instance:EntC Try.prog 98:=⟨aca⟩
theorem aby:Enters Try.prog 99:=fun args w=>by go_simp
instance:EntC Try.prog 99:=⟨aby⟩
theorem aaf:Enters Try.prog 100:=fun args w=>by go_simp
instance:EntC Try.prog 100:=⟨aaf⟩
theorem aag:Enters Try.prog 104:=fun args w=>by go_simp
instance:EntC Try.prog 104:=⟨aag⟩
theorem zp_:Enters Try.prog 105:=fun args w=>by go_simp
instance:EntC Try.prog 105:=⟨zp_⟩
theorem zl_:Enters Try.prog 106:=fun args w=>by go_simp
instance:EntC Try.prog 106:=⟨zl_⟩
theorem aa1:Enters Try.prog 107:=fun args w=>by go_simp
instance:EntC Try.prog 107:=⟨aa1⟩
theorem z4_:Enters Try.prog 108:=fun args w=>by go_simp
instance:EntC Try.prog 108:=⟨z4_⟩
theorem y8_:Enters Try.prog 109:=fun args w=>by go_simp
instance:EntC Try.prog 109:=⟨y8_⟩
theorem y9_:Enters Try.prog 110:=fun args w=>by go_simp
instance:EntC Try.prog 110:=⟨y9_⟩
theorem aaa:Enters Try.prog 111:=fun args w=>by go_simp
instance:EntC Try.prog 111:=⟨aaa⟩
theorem zt_:Enters Try.prog 112:=fun args w=>by go_simp
instance:EntC Try.prog 112:=⟨zt_⟩
theorem abm:Enters Try.prog 113:=fun args w=>by go_simp
instance:EntC Try.prog 113:=⟨abm⟩
theorem aan:Enters Try.prog 114:=fun args w=>by go_simp
instance:EntC Try.prog 114:=⟨aan⟩
theorem z5_:Enters Try.prog 115:=fun args w=>by go_simp
instance:EntC Try.prog 115:=⟨z5_⟩
theorem aam:Enters Try.prog 116:=fun args w=>by go_simp
instance:EntC Try.prog 116:=⟨aam⟩
theorem aau:Enters Try.prog 117:=fun args w=>by go_simp
instance:EntC Try.prog 117:=⟨aau⟩
theorem aab:Enters Try.prog 118:=fun args w=>by go_simp
instance:EntC Try.prog 118:=⟨aab⟩
theorem abb:Enters Try.prog 119:=fun args w=>by go_simp
instance:EntC Try.prog 119:=⟨abb⟩
theorem aaq:Enters Try.prog 120:=fun args w=>by go_simp
instance:EntC Try.prog 120:=⟨aaq⟩
theorem y3_:Enters Try.prog 121:=fun args w=>by go_simp
instance:EntC Try.prog 121:=⟨y3_⟩
theorem aat:Enters Try.prog 122:=fun args w=>by go_simp
instance:EntC Try.prog 122:=⟨aat⟩
theorem aa5:Enters Try.prog 123:=fun args w=>by go_simp
instance:EntC Try.prog 123:=⟨aa5⟩
theorem z9_:Enters Try.prog 124:=fun args w=>by go_simp
instance:EntC Try.prog 124:=⟨z9_⟩
theorem aa6:Enters Try.prog 125:=fun args w=>by go_simp
instance:EntC Try.prog 125:=⟨aa6⟩
theorem aac:Enters Try.prog 126:=fun args w=>by go_simp
instance:EntC Try.prog 126:=⟨aac⟩
theorem y1_:Enters Try.prog 127:=fun args w=>by go_simp
instance:EntC Try.prog 127:=⟨y1_⟩
theorem z1_:Enters Try.prog 129:=fun args w=>by go_simp
instance:EntC Try.prog 129:=⟨z1_⟩
theorem z6_:Enters Try.prog 130:=fun args w=>by go_simp
instance:EntC Try.prog 130:=⟨z6_⟩
theorem zy_:Enters Try.prog 131:=fun args w=>by go_simp
instance:EntC Try.prog 131:=⟨zy_⟩
theorem za_:Enters Try.prog 133:=fun args w=>by go_simp
instance:EntC Try.prog 133:=⟨za_⟩
instance:TyPtr Try.prog 29 96:=⟨by kernel_rfl⟩
set_option maxHeartbeats 4000000
set_option maxRecDepth 8000
open Go Go.RowKit Go.PP Go.Dm Go.Rt
theorem mb_ (n:Int):bb_ n []=n:=by rw [bb_]
theorem kg_ (n:Int) (t:Tr) (ts:List Tr):bb_ n (t::ts)=bb_ (w64i (n+fu_ t)) ts:=by rw [bb_]
theorem r4_ (n:Int):fp_ n []=w64i (n+1):=by rw [fp_]
theorem q8_ (n:Int) (t:Tr) (ts:List Tr):fp_ n (t::ts)=fp_ (if fo_ t>n then fo_ t else n) ts:=by rw [fp_]
theorem qt_ (s:Int) (l:List Tr):fo_ (.node s l)=fp_ 0 l:=by rw [fo_]
theorem ez_ {l:List Tr} {i:Nat} {t:Tr} (h:l[i]?=some t):l.drop i=t::l.drop (i+1):=by
 have hi:=(List.getElem?_eq_some_iff.1 h).1
 rw [List.drop_eq_getElem_cons hi]
 rw [List.getElem?_eq_getElem hi] at h
 rw [Option.some.inj h]
theorem gh_:∀ (n:Nat) (t:Tr),depT t≤n→TSm t→DFun Try.prog 114 [c2_ t] (.flat (.int .i64 (fu_ t)))
 |0,.node s l,h,_=>by rw [ax_] at h;omega
 |n+1,.node s l,h,hs=>by
  rw [ax_] at h
  rw [cu_] at hs
  have hs1:=hs.1
  have ih:=gh_ n
  rw [ak_,dg_]
  refine DFun.enterA Try.func114 Try.ntmps114 ?_
  refine DW.walk ?_
  refine DW.loopA (fun p:Nat × Int=>⟨[(1,.ref 1 0),(3,.flat (.int .i64 p.2)),(7,.sl false 2 l.length (ae_ l)),(8,.flat (.int .i64 (l.length:Nat))),(9,.flat (.int .i64 (p.1:Nat)))],[(1,some (.box [.flat (.int .i64 s),.sl false 2 l.length (ae_ l)]))]⟩) (fun p=>p.1≤l.length∧bb_ p.2 (l.drop p.1)=bb_ 1 l) (fun p=>l.length - p.1) (0,1) ?_ ⟨Nat.zero_le _,by show bb_ 1 (l.drop 0)=_;rw [List.drop_zero]⟩
  rintro⟨i,m⟩ ⟨hi,hm⟩
  have hi:i≤l.length:=hi
  have hm:bb_ m (l.drop i)=bb_ 1 l:=hm
  rcases Nat.lt_or_ge i l.length with hlt|hge
  ·obtain⟨k,hk⟩:∃ k,l[i]?=some k:=⟨_,List.getElem?_eq_getElem hlt⟩
   have hp:=bk_ hk
   have hd:=d5_ hk
   have hks:=TSmL.at hs.2 hk
   have ihk:=ih k (by omega) hks
   rw [ez_ hk,kg_] at hm
   obtain⟨c,hc⟩:∃ c,IntKind.i64.wrap (m+fu_ k)=c:=⟨_,rfl⟩
   unfold w64i at hm
   rw [hc] at hm
   clear ih hk hs hks hd h
   obtain⟨s',l'⟩:=k
   rw [ak_] at hp ihk
   generalize fu_ (.node s' l')=z at*
   refine DW.walk ?_
   exact⟨(i+1,c),⟨by show i+1≤_;omega,hm⟩,by show l.length - (i+1)<l.length - i;omega,Sub.auto⟩
  ·obtain rfl:i=l.length:=by omega
   rw [List.drop_of_length_le (Nat.le_refl _),mb_] at hm
   subst hm
   clear ih h hs
   refine DW.walk ?_
   exact⟨.inr rfl,ResOk.one [] rfl rfl trivial (Vw.pers rfl)⟩
theorem ho_:∀ (n:Nat) (t:Tr),depT t≤n→TSm t→DFun Try.prog 37 [c2_ t] (.flat (.int .i64 (fu_ t)))
 |0,.node s l,h,_=>by rw [ax_] at h;omega
 |n+1,.node s l,h,hs=>by
  rw [ax_] at h
  rw [cu_] at hs
  have hs1:=hs.1
  have ih:=ho_ n
  rw [ak_,dg_]
  refine DFun.enterA Try.func37 Try.ntmps37 ?_
  refine DW.walk ?_
  refine DW.loopA (fun p:Nat × Int=>⟨[(1,.ref 1 0),(3,.flat (.int .i64 p.2)),(4,.flat (.int .i64 (p.1:Nat)))],[(1,some (.box [.flat (.int .i64 s),.sl false 2 l.length (ae_ l)]))]⟩) (fun p=>p.1≤l.length∧bb_ p.2 (l.drop p.1)=bb_ 1 l) (fun p=>l.length - p.1) (0,1) ?_ ⟨Nat.zero_le _,by show bb_ 1 (l.drop 0)=_;rw [List.drop_zero]⟩
  rintro⟨i,m⟩ ⟨hi,hm⟩
  have hi:i≤l.length:=hi
  have hm:bb_ m (l.drop i)=bb_ 1 l:=hm
  rcases Nat.lt_or_ge i l.length with hlt|hge
  ·obtain⟨k,hk⟩:∃ k,l[i]?=some k:=⟨_,List.getElem?_eq_getElem hlt⟩
   have hp:=bk_ hk
   have hd:=d5_ hk
   have hks:=TSmL.at hs.2 hk
   have ihk:=ih k (by omega) hks
   rw [ez_ hk,kg_] at hm
   obtain⟨c,hc⟩:∃ c,IntKind.i64.wrap (m+fu_ k)=c:=⟨_,rfl⟩
   unfold w64i at hm
   rw [hc] at hm
   clear ih hk hs hks hd h
   obtain⟨s',l'⟩:=k
   rw [ak_] at hp ihk
   generalize fu_ (.node s' l')=z at*
   refine DW.walk ?_
   exact⟨(i+1,c),⟨by show i+1≤_;omega,hm⟩,by show l.length - (i+1)<l.length - i;omega,Sub.auto⟩
  ·obtain rfl:i=l.length:=by omega
   rw [List.drop_of_length_le (Nat.le_refl _),mb_] at hm
   subst hm
   clear ih h hs
   refine DW.walk ?_
   exact⟨.inr rfl,ResOk.one [] rfl rfl trivial (Vw.pers rfl)⟩
theorem ms_:∀ (n:Nat) (t:Tr),depT t≤n→TSm t→DFun Try.prog 125 [c2_ t] (.flat (.int .i64 (fo_ t)))
 |0,.node s l,h,_=>by rw [ax_] at h;omega
 |n+1,.node s l,h,hs=>by
  rw [ax_] at h
  rw [cu_] at hs
  have hs1:=hs.1
  have ih:=ms_ n
  rw [ak_,qt_]
  refine DFun.enterA Try.func125 Try.ntmps125 ?_
  refine DW.walk ?_
  refine DW.loopA (fun p:Nat × Int=>⟨[(1,.ref 1 0),(3,.flat (.int .i64 p.2)),(7,.sl false 2 l.length (ae_ l)),(8,.flat (.int .i64 (l.length:Nat))),(9,.flat (.int .i64 (p.1:Nat)))],[(1,some (.box [.flat (.int .i64 s),.sl false 2 l.length (ae_ l)]))]⟩) (fun p=>p.1≤l.length∧fp_ p.2 (l.drop p.1)=fp_ 0 l) (fun p=>l.length - p.1) (0,0) ?_ ⟨Nat.zero_le _,by show fp_ 0 (l.drop 0)=_;rw [List.drop_zero]⟩
  rintro⟨i,m⟩ ⟨hi,hm⟩
  have hi:i≤l.length:=hi
  have hm:fp_ m (l.drop i)=fp_ 0 l:=hm
  rcases Nat.lt_or_ge i l.length with hlt|hge
  ·obtain⟨k,hk⟩:∃ k,l[i]?=some k:=⟨_,List.getElem?_eq_getElem hlt⟩
   have hp:=bk_ hk
   have hd:=d5_ hk
   have hks:=TSmL.at hs.2 hk
   have ihk:=ih k (by omega) hks
   rw [ez_ hk,q8_] at hm
   obtain⟨c,hc⟩:∃ c,(if fo_ k>m then fo_ k else m)=c:=⟨_,rfl⟩
   rw [hc] at hm
   clear ih hk hs hks hd h
   obtain⟨s',l'⟩:=k
   rw [ak_] at hp ihk
   generalize fo_ (.node s' l')=z at*
   refine DW.walk ?_
   exact⟨(i+1,c),⟨by show i+1≤_;omega,hm⟩,by show l.length - (i+1)<l.length - i;omega,Sub.auto⟩
  ·obtain rfl:i=l.length:=by omega
   rw [List.drop_of_length_le (Nat.le_refl _),r4_] at hm
   unfold w64i at hm
   rw [← hm]
   obtain⟨c,hc⟩:∃ c,IntKind.i64.wrap (m+1)=c:=⟨_,rfl⟩
   rw [hc]
   clear ih h hs hm
   refine DW.walk ?_
   exact⟨.inr rfl,ResOk.one [] rfl rfl trivial (Vw.pers rfl)⟩
theorem w1_:∀ (n:Nat) (t:Tr),depT t≤n→TSm t→DFun Try.prog 45 [c2_ t] (c2_ t)
 |0,.node s l,h,_=>by rw [ax_] at h;omega
 |n+1,.node s l,h,hs=>by
  rw [ax_] at h
  rw [cu_] at hs
  have hs1:=hs.1
  have ih:=w1_ n
  rw [ak_]
  refine DFun.enterA Try.func45 Try.ntmps45 ?_
  refine DW.walkTo 2 ?_
  refine DW.adoptBox 3 1 103 74 2 rfl rfl rfl ?_
  refine DW.walk ?_
  refine DW.loopA (fun i:Nat=>⟨[(1,.ref 1 0),(2,.ref 2 0),(3,.ref 3 0),(4,.flat (.int .i64 (i:Nat)))],[(1,some (.box [.flat (.int .i64 s),.sl false 2 l.length (ae_ l)])),(2,some (.box [.flat (.int .i64 0),.flat (.slice none 0 0)])),(3,some (.box [.flat (.int .i64 s),.own 103 i])),(103,some (.row 74 2 i (ae_ (l.take i))))]⟩) (fun i=>i≤l.length) (fun i=>l.length - i) 0 ?_ (Nat.zero_le _) (by
   rw [List.take_zero,co_]
   exact Sub.auto)
  intro i hi
  rcases Nat.lt_or_ge i l.length with hlt|hge
  ·obtain⟨k,hk⟩:∃ k,l[i]?=some k:=⟨_,List.getElem?_eq_getElem hlt⟩
   have hp:=bk_ hk
   have hd:=d5_ hk
   have hks:=TSmL.at hs.2 hk
   have ihk:=ih k (by omega) hks
   have hsn:=(kf_ hk).symm
   clear ih hk hs hks hd h
   obtain⟨s',l'⟩:=k
   rw [a9_] at hsn
   rw [ak_] at hp ihk
   refine DW.walk ?_
   exact⟨i+1,by omega,by omega,Sub.auto⟩
  ·obtain rfl:i=l.length:=by omega
   rw [List.take_length]
   clear ih h hs
   refine DW.walk ?_
   exact⟨.inr rfl,ResOk.cellA [(103,some (.row 74 2 l.length (ae_ l)))] rfl rfl rfl TyI.ag TyI.sz ⟨rfl,trivial⟩ (.cons (Vw.pers rfl) (.cons (Vw.own (.head _) (VwL.pers (ah_ _))) .nil)) (Le.refl _)⟩
theorem ty_:∀ (n:Nat) (t:Tr),depT t≤n→TSm t→DFun Try.prog 84 [c2_ t] (c2_ t)
 |0,.node s l,h,_=>by rw [ax_] at h;omega
 |n+1,.node s l,h,hs=>by
  rw [ax_] at h
  rw [cu_] at hs
  have hs1:=hs.1
  have ih:=ty_ n
  rw [ak_]
  refine DFun.enterA Try.func84 Try.ntmps84 ?_
  refine DW.walkTo 2 ?_
  refine DW.adoptBox 3 1 103 78 2 rfl rfl rfl ?_
  refine DW.walk ?_
  refine DW.loopA (fun i:Nat=>⟨[(1,.ref 1 0),(2,.ref 2 0),(3,.ref 3 0),(10,.sl false 2 l.length (ae_ l)),(11,.flat (.int .i64 (l.length:Nat))),(12,.flat (.int .i64 (i:Nat)))],[(1,some (.box [.flat (.int .i64 s),.sl false 2 l.length (ae_ l)])),(2,some (.box [.flat (.int .i64 0),.flat (.slice none 0 0)])),(3,some (.box [.flat (.int .i64 s),.own 103 i])),(103,some (.row 78 2 i (ae_ (l.take i))))]⟩) (fun i=>i≤l.length) (fun i=>l.length - i) 0 ?_ (Nat.zero_le _) (by
   rw [List.take_zero,co_]
   exact Sub.auto)
  intro i hi
  rcases Nat.lt_or_ge i l.length with hlt|hge
  ·obtain⟨k,hk⟩:∃ k,l[i]?=some k:=⟨_,List.getElem?_eq_getElem hlt⟩
   have hp:=bk_ hk
   have hd:=d5_ hk
   have hks:=TSmL.at hs.2 hk
   have ihk:=ih k (by omega) hks
   have hsn:=(kf_ hk).symm
   clear ih hk hs hks hd h
   obtain⟨s',l'⟩:=k
   rw [a9_] at hsn
   rw [ak_] at hp ihk
   refine DW.walk ?_
   exact⟨i+1,by omega,by omega,Sub.auto⟩
  ·obtain rfl:i=l.length:=by omega
   rw [List.take_length]
   clear ih h hs
   refine DW.walk ?_
   exact⟨.inr rfl,ResOk.cellA [(103,some (.row 78 2 l.length (ae_ l)))] rfl rfl rfl TyI.ag TyI.sz ⟨rfl,trivial⟩ (.cons (Vw.pers rfl) (.cons (Vw.own (.head _) (VwL.pers (ah_ _))) .nil)) (Le.refl _)⟩
theorem aa7 (a:Int):DFun Try.prog 129 [.flat (.int .i64 a)] (.flat (.bool false)):=by
 refine DFun.enterA Try.func129 Try.ntmps129 ?_
 refine DW.walk ?_
 exact⟨.inr rfl,ResOk.one [] rfl rfl trivial (Vw.le (Vw.pers rfl) (Le.of_eq (congrArg (fun b=>D.flat (.bool b)) (decide_eq_false (fun h:a≠a=>h rfl)))))⟩
theorem op_ (a b:Int):DFun Try.prog 86 [.flat (.int .i64 a),.flat (.int .i64 b)] (.flat (.int .i64 (cmpI a b))):=by
 unfold cmpI
 by_cases h1:a<b
 ·rw [if_pos h1]
  refine DFun.enterA Try.func86 Try.ntmps86 ?_
  refine DW.walk ?_
  exact⟨.inr rfl,ResOk.one [] rfl rfl trivial (Vw.pers rfl)⟩
 ·rw [if_neg h1]
  by_cases h2:a>b
  ·rw [if_pos h2]
   refine DFun.enterA Try.func86 Try.ntmps86 ?_
   refine DW.walk ?_
   exact⟨.inr rfl,ResOk.one [] rfl rfl trivial (Vw.pers rfl)⟩
  ·rw [if_neg h2]
   refine DFun.enterA Try.func86 Try.ntmps86 ?_
   refine DW.walk ?_
   exact⟨.inr rfl,ResOk.one [] rfl rfl trivial (Vw.pers rfl)⟩
theorem kq_ (a b:Int):DFun Try.prog 113 [.flat (.int .i64 a),.flat (.int .i64 b)] (.flat (.int .i64 (cmpI a b))):=by
 have n1:=aa7 a
 have n2:=aa7 b
 unfold cmpI
 by_cases h1:a<b
 ·rw [if_pos h1]
  refine DFun.enterA Try.func113 Try.ntmps113 ?_
  refine DW.walk ?_
  exact⟨.inr rfl,ResOk.one [] rfl rfl trivial (Vw.pers rfl)⟩
 ·rw [if_neg h1]
  by_cases h2:a>b
  ·rw [if_pos h2]
   refine DFun.enterA Try.func113 Try.ntmps113 ?_
   refine DW.walk ?_
   exact⟨.inr rfl,ResOk.one [] rfl rfl trivial (Vw.pers rfl)⟩
  ·rw [if_neg h2]
   refine DFun.enterA Try.func113 Try.ntmps113 ?_
   refine DW.walk ?_
   exact⟨.inr rfl,ResOk.one [] rfl rfl trivial (Vw.pers rfl)⟩
def nz:List Int→Int
 | []=>0
 |x::r=>if x≠0 then x else nz r
theorem lu_ (x:Int) (r:List Int):nz (x::r)=if x≠0 then x else nz r:=rfl
theorem aek (l:List Int) (hl:l.length≤1000):DFun Try.prog 112 [.sl true 1 l.length (l.map fun x=> .flat (.int .i64 x))] (.flat (.int .i64 (nz l))):=by
 refine DFun.enterA Try.func112 Try.ntmps112 ?_
 refine DW.walk ?_
 refine DW.loopA (fun i:Nat=>⟨[(3,.flat (.int .i64 0)),(6,.sl true 1 l.length (l.map fun x=> .flat (.int .i64 x))),(7,.flat (.int .i64 (l.length:Nat))),(8,.flat (.int .i64 (i:Nat)))],[]⟩) (fun i=>i≤l.length∧nz (l.drop i)=nz l) (fun i=>l.length - i) 0 ?_ ⟨Nat.zero_le _,by rw [List.drop_zero]⟩ (Sub.frame ⟨Vs.pers rfl,Vs.pers rfl,Vs.pers rfl,Vs.pers rfl,trivial⟩)
 rintro i ⟨hi,hn⟩
 rcases Nat.lt_or_ge i l.length with hlt|hge
 ·obtain⟨x,hx⟩:∃ x,l[i]?=some x:=⟨_,List.getElem?_eq_getElem hlt⟩
  have hp:partD false 1 (i*1) (l.map fun x=> .flat (.int .i64 x))=some (.flat (.int .i64 x)):=mx_ hx
  have hd:l.drop i=x::l.drop (i+1):=by
   rw [List.drop_eq_getElem_cons hlt]
   rw [List.getElem?_eq_getElem hlt] at hx
   rw [Option.some.inj hx]
  rw [hd,lu_] at hn
  generalize hL:(l.map fun x=>D.flat (.int .i64 x))=L at*
  have hLp:persL L=true:=by rw [← hL];exact ac_ (fun _=>rfl) l
  clear hd hx hL
  by_cases h0:x=0
  ·rw [if_neg (by simpa using h0)] at hn
   refine DW.walk ?_
   exact⟨i+1,⟨by omega,hn⟩,by omega,Sub.auto⟩
  ·rw [if_pos h0] at hn
   rw [← hn]
   refine DW.walk ?_
   exact⟨.inr rfl,ResOk.one [] rfl rfl trivial (Vw.pers rfl)⟩
 ·obtain rfl:i=l.length:=by omega
  rw [List.drop_of_length_le (Nat.le_refl _)] at hn
  rw [← hn]
  generalize (l.map fun x=>D.flat (.int .i64 x))=L at*
  refine DW.walk ?_
  exact⟨.inr rfl,ResOk.one [] rfl rfl trivial (Vw.pers rfl)⟩
theorem ads (a b c:Int):DFun Try.prog 112 [.sl true 1 3 [.flat (.int .i64 a),.flat (.int .i64 b),.flat (.int .i64 c)]] (.flat (.int .i64 (nz [a,b,c]))):=aek [a,b,c] (by show 3≤1000;decide)
end Go.Proofs.Ytichhfbkhnimmaa
