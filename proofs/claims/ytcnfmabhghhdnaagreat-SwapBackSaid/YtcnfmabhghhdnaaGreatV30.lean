/- Parts of the proof (put together by a program): definitions, lemmas, and the law; no condition. -/
import Derived.Test.YtcnfmabhghhdnaaGreatV19
import Derived.Test.YtcnfmabhghhdnaaGreatV26
import Derived.Test.YtcnfmabhghhdnaaGreatV27
import Derived.Test.YtcnfmabhghhdnaaGreatV29
import Derived.Test.YtcnfmabhghhdnaaGreatV31
import Derived.Test.YtcnfmabhghhdnaaGreatV6
set_option linter.unusedVariables false
set_option linter.unusedSimpArgs false
open Nat renaming reduceAdd → YA, reduceSub → YS, reduceMul → YM, reduceLT → YL, reduceLeDiff → YE, reduceEqDiff → YD, reduceBEq → YB, reduceBNe → YN
open List renaming reduceReplicate → YR
section
namespace Go.Proofs.YtcnfmabhghhdnaaGreat
open Go.RowKit Go.IntWalk
namespace T
def entIxf:Ent:=⟨120,.cons (.sl (.st (.cons (.int .i64) (.cons (.int .i64) (.int .i64))))) (.cons (.fn (.st (.cons (.int .i64) (.cons (.int .i64) (.int .i64)))) .bool) .nil),(.int .i64),false,none,fun _=>True,fun x=>idxF (x.2.1:DLoad→Bool) (x.1:List DLoad)⟩
def csIxf:List Ent:=[] theorem hcsIxf (f:FuncId):findEnt csIxf f=findEnt [] f:=rfl
theorem conIxf:Con Tryz.prog entIxf:=by
 refine con_is (C:=csIxf) x120 (by kernel_rfl) (by simp [csIxf]) fun x hx hf=>?_
 obtain ⟨(l:List DLoad),(F:DLoad→Bool),_⟩:=x
 have hl:l.length≤9223372036854775807:=hf.1.1
 dsimp only [entIxf,x120,Zb];simp only [↓hcsIxf,go_sem,YA,YS,YM,YL,YE,YD,YB,YN,YR,reduceIte,reduceCtorEq,↓reduceIte];try simp only [td,reduceCtorEq]
 refine XW_for 1000 x120_0d [] Nat (fun j=>[(8,.val (.int .i64) (j:Int))]) (fun _=>[]) (fun j=>j≤l.length∧∀ i,i < j→F (l.getD i (0,0,0))=false) (fun j=>l.length - j) 0 ?_ ?_ ?_
 ·dsimp only [x120_0d]
  simp only [go_sem,YA,YS,YM,YL,YE,YD,YB,YN,YR,reduceIte,reduceCtorEq,↓reduceIte]
  try rfl
 ·exact ⟨Nat.zero_le _,fun i hi=>by omega⟩
 ·rintro j ⟨hj,hn⟩
  dsimp only [x120_0,x120_0d,Z5,Za,Zg]
  simp only [↓hcsIxf,go_sem,YA,YS,YM,YL,YE,YD,YB,YN,YR,reduceIte,reduceCtorEq,↓reduceIte]
  try simp only [td,reduceCtorEq]
  have w2:j < l.length→IntKind.i64.wrap ((j:Int)+1)=((j+1:Nat):Int):=fun h=>i64_in _ (by omega)
  refine ⟨fun hj'=>⟨hj',fun q=>(idxF_at hj' hn q).symm,fun q=>⟨j+1,by omega,⟨hj',fun i hi=>?_⟩,w2 hj'⟩⟩,fun hj'=>(idxF_none fun i hi=>hn i (by omega)).symm⟩
  by_cases c:i=j
  ·subst c;exact q
  ·exact hn i (by omega)
def entOver:Ent:=⟨121,.cons (.st (.cons (.int .i64) (.cons (.int .i64) (.int .i64)))) (.cons (.ptr (.st (.cons (.int .i64) (.cons (.int .i64) (.cons (.int .i64) (.cons (.int .i64) (.cons (.int .i64) (.cons (.int .i64) (.cons (.int .i64) (.cons (.int .i64) (.int .i64))))))))))) .nil),.bool,false,none,fun _=>True,fun x=>overB x.1 (carLoad x.2.1)⟩
def csOv:List Ent:=[] theorem hcsOv (f:FuncId):findEnt csOv f=findEnt [] f:=rfl
theorem conOver:Con Tryz.prog entOver:=by
 refine con_is (C:=csOv) x121 (by kernel_rfl) (by simp [csOv]) fun x hx hf=>?_
 obtain ⟨⟨(a:Int),(b:Int),(c:Int)⟩,⟨(c1:Int),(c2:Int),(c3:Int),(c4:Int),(c5:Int),(c6:Int),(c7:Int),(c8:Int),(c9:Int)⟩,_⟩:=x
 dsimp only [entOver,x121,Z1,Za,Zb,Zc,Ze];simp only [↓hcsOv,go_sem,YA,YS,YM,YL,YE,YD,YB,YN,YR,reduceIte,reduceCtorEq,↓reduceIte];try simp only [td,reduceCtorEq]
 unfold overB carLoad
 rw [Bool.or_assoc]
def entFits:Ent:=⟨65,.cons (.st (.cons (.int .i64) (.cons (.int .i64) (.cons (.int .i64) (.cons (.int .i64) (.cons (.int .i64) (.cons (.int .i64) (.cons (.int .i64) (.cons (.int .i64) (.int .i64)))))))))) (.cons (.sl (.st (.cons (.int .i64) .bool))) (.cons (.sl (.st (.cons (.int .i64) (.cons (.int .i64) (.cons (.int .i64) (.cons (.int .i64) (.cons (.int .i64) (.cons (.int .i64) (.cons (.int .i64) (.cons (.int .i64) (.cons (.int .i64) (.int .i64)))))))))))) .nil)),.cons (.int .i64) (.cons (.int .i64) .nil),true,none,fun _=>True,fun x=>((fitsF (carLoad x.1) x.2.1 x.2.2.1).1,(fitsF (carLoad x.1) x.2.1 x.2.2.1).2,())⟩
def csFts:List Ent:=[entProf,entPlaces,entIxf,entOver] theorem hcsFts (f:FuncId):findEnt csFts f=findEnt [entProf,entPlaces,entIxf,entOver] f:=rfl
theorem conFits:Con Tryz.prog entFits:=by
 refine con_is (C:=csFts) x65 (by kernel_rfl) (by simp [csFts,conProf,conPlaces,conIxf,conOver]) fun x hx hf=>?_
 obtain ⟨⟨(c1:Int),(c2:Int),(c3:Int),(c4:Int),(c5:Int),(c6:Int),(c7:Int),(c8:Int),(c9:Int)⟩,(ss:List DStop),(rs:List DReq),_⟩:=x
 dsimp only [entFits,x65,Z1,Z5,Za,Zb,Zc,Ze,Zg];simp only [↓hcsFts,entProf,entPlaces,entIxf,entOver,go_sem,YA,YS,YM,YL,YE,YD,YB,YN,YR,reduceIte,reduceCtorEq,↓reduceIte];try simp only [td,reduceCtorEq]
 refine ⟨fun q=>by rw [fits_bad (c:=carLoad (c1,c2,c3,c4,c5,c6,c7,c8,c9)) q],fun q=>⟨fun z=>by rw [fits_full (c:=carLoad (c1,c2,c3,c4,c5,c6,c7,c8,c9)) q z];rfl,fun z=>by rw [fits_ok (c:=carLoad (c1,c2,c3,c4,c5,c6,c7,c8,c9)) q z]⟩⟩
end T
end Go.Proofs.YtcnfmabhghhdnaaGreat
end
section
namespace Go.Proofs.YtcnfmabhghhdnaaGreat
open Go.RowKit Go.IntWalk
namespace T
def begF (w:DWorld) (c:Int) (ss:List DStop):DChain × Int :=
 if asksF w c ss=false then (noChain,1) else if (fitsF (carLoad (carAt w c)) ss w.2.2.2.1).2≠0 then (noChain,27) else if togF w.2.2.2.2.1 ss w.2.2.2.1=false then (noChain,30) else chainF w c ss
def entBeg:Ent:=⟨37,.cons (.st (.cons (.int .i64) (.cons (.sl (.st (.cons (.int .i64) (.cons (.int .i64) (.cons (.sl (.int .i64)) (.sl (.int .i64))))))) (.cons (.sl (.st (.cons (.int .i64) (.cons (.int .i64) (.cons (.int .i64) (.cons (.int .i64) (.cons (.int .i64) (.cons (.int .i64) (.cons (.int .i64) (.cons (.int .i64) (.int .i64))))))))))) (.cons (.sl (.st (.cons (.int .i64) (.cons (.int .i64) (.cons (.int .i64) (.cons (.int .i64) (.cons (.int .i64) (.cons (.int .i64) (.cons (.int .i64) (.cons (.int .i64) (.cons (.int .i64) (.int .i64)))))))))))) (.cons (.sl (.st (.cons (.int .i64) (.cons (.int .i64) .bool)))) (.st (.cons (.int .i64) (.cons (.int .i64) (.int .i64)))))))))) (.cons (.int .i64) (.cons (.sl (.st (.cons (.int .i64) .bool))) .nil)),.cons (.st (.cons (.sl (.st (.cons (.int .i64) (.int .i64)))) (.cons (.sl (.st (.cons (.int .i64) (.int .i64)))) (.sl (.st (.cons (.int .i64) (.cons (.int .i64) (.int .i64)))))))) (.cons (.int .i64) .nil),true,none,fun x=>List.length (α:=DStop) x.2.2.1≤24,fun x=>((begF x.1 x.2.1 x.2.2.1).1,(begF x.1 x.2.1 x.2.2.1).2,())⟩
def csBeg:List Ent:=[entAsk,entFits,entTog,entChn] theorem hcsBeg (f:FuncId):findEnt csBeg f=findEnt [entAsk,entFits,entTog,entChn] f:=rfl
theorem conBeg:Con Tryz.prog entBeg:=by
 refine con_is (C:=csBeg) x37 (by kernel_rfl) (by simp [csBeg,conAsk,conFits,conTog,conChn]) fun x hx hf=>?_
 obtain ⟨⟨(N:Int),(A:List DArc),(C:List DCar),(Q:List DReq),(P:List DPair),(S1:Int),(S2:Int),(S3:Int)⟩,(c:Int),(ss:List DStop),_⟩:=x
 replace hx:ss.length≤24:=hx
 cases ha:asksF (N,A,C,Q,P,S1,S2,S3) c ss with
 | false =>
  have hz:begF (N,A,C,Q,P,S1,S2,S3) c ss=(([],[],[]),1):=by unfold begF;rw [if_pos ha];rfl
  dsimp only [entBeg,x37,Z11,Z19,Z20,Z23,Z24,Z7,Za,Zb,Zc,Zd,Zf,Zg,Zi];simp only [↓hcsBeg,entAsk,entFits,entTog,entChn,undef,ha,hz,go_sem,YA,YS,YM,YL,YE,YD,YB,YN,YR,reduceIte,reduceCtorEq,↓reduceIte]
  try simp only [ha,hz,td,reduceCtorEq]
 | true =>
  obtain ⟨hw,hc,hss⟩:=asks_iff.1 ha
  dsimp only at hc hss
  obtain ⟨c,rfl⟩:∃ z:Nat,c=z:=⟨c.toNat,by omega⟩
  have hcl:c < C.length:=by omega
  have hca:carAt (N,A,C,Q,P,S1,S2,S3) (c:Int)=C.getD c (0,0,0,0,0,0,0,0,0):=rfl
  have hz:begF (N,A,C,Q,P,S1,S2,S3) c ss=if (fitsF (carLoad (C.getD c (0,0,0,0,0,0,0,0,0))) ss Q).2≠0 then (noChain,27) else if togF P ss Q=false then (noChain,30) else chainF (N,A,C,Q,P,S1,S2,S3) c ss:=by
   unfold begF
   rw [if_neg (by rw [ha];simp),hca]
  dsimp only [entBeg,x37,Z11,Z19,Z20,Z23,Z24,Z7,Za,Zb,Zc,Zd,Zf,Zg,Zi];simp only [↓hcsBeg,entAsk,entFits,entTog,entChn,undef,ha,hcl,hx,Int.toNat_natCast,go_sem,YA,YS,YM,YL,YE,YD,YB,YN,YR,reduceIte,reduceCtorEq,↓reduceIte]
  try simp only [ha,hcl,hx,Int.toNat_natCast,td,reduceCtorEq]
  refine ⟨fun h=>?_,fun h=>⟨fun h2=>?_,fun h2=>?_⟩⟩
  ·rw [hz,if_pos h];rfl
  ·rw [hz,if_neg (fun q=>q h),if_pos h2];rfl
  ·rw [hz,if_neg (fun q=>q h),if_neg (by rw [h2];simp)]
end T
end Go.Proofs.YtcnfmabhghhdnaaGreat
end
