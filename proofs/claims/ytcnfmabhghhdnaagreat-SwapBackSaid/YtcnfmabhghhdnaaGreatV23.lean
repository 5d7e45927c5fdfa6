/- Parts of the proof (put together by a program): definitions, lemmas, and the law; no condition. -/
import Derived.Test.YtcnfmabhghhdnaaGreatV2
import Derived.Test.YtcnfmabhghhdnaaGreatV5
import Derived.Test.YtcnfmabhghhdnaaGreatV6
set_option linter.unusedVariables false
set_option linter.unusedSimpArgs false
open Nat renaming reduceAdd → YA, reduceSub → YS, reduceMul → YM, reduceLT → YL, reduceLeDiff → YE, reduceEqDiff → YD, reduceBEq → YB, reduceBNe → YN
open List renaming reduceReplicate → YR
section
namespace Go.Proofs.YtcnfmabhghhdnaaGreat
open Go.RowKit Go.IntWalk
namespace T
theorem at_next {ss:List DStop} {x:DStop} {j:Nat} (hj:j < ss.length) (hn:x ∉ ss.take j) (h:ss.getD j dStop≠x):x ∉ ss.take (j+1):=by
 rw [take_next hj,List.mem_append,List.mem_singleton]
 exact fun q=>q.elim hn fun e=>h e.symm
theorem at_end {ss:List DStop} {x:DStop} {j:Nat} (hj:ss.length≤j) (hn:x ∉ ss.take j):x ∉ ss:=by rwa [List.take_of_length_le hj] at hn
def entPlc:Ent:=⟨176,.cons (.int .i64) .nil,.bool,false,none,fun _=>True,fun x=>place1 x.1⟩
def csPlc:List Ent:=[] theorem hcsPlc (f:FuncId):findEnt csPlc f=findEnt [] f:=rfl
theorem conPlc:Con Tryz.prog entPlc:=by
 refine con_is (C:=csPlc) x176 (by kernel_rfl) (by simp [csPlc]) fun x hx hf=>?_
 obtain ⟨(n:Int),_⟩:=x
 dsimp only [entPlc,x176,Za];simp only [↓hcsPlc,go_sem,YA,YS,YM,YL,YE,YD,YB,YN,YR,reduceIte,reduceCtorEq,↓reduceIte];try simp only [td,reduceCtorEq]
 simp [place1]
def entPlaces:Ent:=⟨119,.cons (.st (.cons (.int .i64) (.cons (.int .i64) (.int .i64)))) .nil,.bool,false,none,fun _=>True,fun x=>placesB x.1⟩
def csPls:List Ent:=[entPlc] theorem hcsPls (f:FuncId):findEnt csPls f=findEnt [entPlc] f:=rfl
theorem conPlaces:Con Tryz.prog entPlaces:=by
 refine con_is (C:=csPls) x119 (by kernel_rfl) (by simp [csPls,conPlc]) fun x hx hf=>?_
 obtain ⟨⟨(a:Int),(b:Int),(c:Int)⟩,_⟩:=x
 dsimp only [entPlaces,x119,Z1,Za,Zb,Zc,Ze];simp only [↓hcsPls,entPlc,go_sem,YA,YS,YM,YL,YE,YD,YB,YN,YR,reduceIte,reduceCtorEq,↓reduceIte];try simp only [td,reduceCtorEq]
 simp [placesB,Bool.and_assoc]
def entOf:Ent:=⟨172,.cons (.st (.cons (.int .i64) (.cons (.int .i64) (.cons (.int .i64) (.cons (.int .i64) (.cons (.int .i64) (.cons (.int .i64) (.cons (.int .i64) (.cons (.int .i64) (.cons (.int .i64) (.int .i64))))))))))) .nil,(.st (.cons (.int .i64) (.cons (.int .i64) (.int .i64)))),false,none,fun _=>True,fun x=>reqLoad x.1⟩
def csOf:List Ent:=[] theorem hcsOf (f:FuncId):findEnt csOf f=findEnt [] f:=rfl
theorem conOf:Con Tryz.prog entOf:=by
 refine con_is (C:=csOf) x172 (by kernel_rfl) (by simp [csOf]) fun x hx hf=>?_
 obtain ⟨⟨(a:Int),(b:Int),(c:Int),(d:Int),(e:Int),(f:Int),(g:Int),(h:Int),(i:Int),(j:Int)⟩,_⟩:=x
 dsimp only [entOf,x172,Z1,Z5,Zb,Zd];simp only [↓hcsOf,go_sem,YA,YS,YM,YL,YE,YD,YB,YN,YR,reduceIte,reduceCtorEq,↓reduceIte];try simp only [td,reduceCtorEq]
 rfl
def entIdxS:Ent:=⟨146,.cons (.sl (.st (.cons (.int .i64) .bool))) (.cons (.st (.cons (.int .i64) .bool)) .nil),(.int .i64),false,none,fun _=>True,fun x=>atF x.2.1 x.1⟩
def csIxs:List Ent:=[] theorem hcsIxs (f:FuncId):findEnt csIxs f=findEnt [] f:=rfl
theorem conIdxS:Con Tryz.prog entIdxS:=by
 refine con_is (C:=csIxs) x146 (by kernel_rfl) (by simp [csIxs]) fun x hx hf=>?_
 obtain ⟨(ss:List DStop),⟨(k:Int),(p:Bool)⟩,_⟩:=x
 have hl:ss.length≤9223372036854775807:=hf.1.1
 dsimp only [entIdxS,x146,Zb];simp only [↓hcsIxs,go_sem,YA,YS,YM,YL,YE,YD,YB,YN,YR,reduceIte,reduceCtorEq,↓reduceIte];try simp only [td,reduceCtorEq]
 refine XW_for 1000 x146_0d [0] Nat (fun j=>[(8,.val (.int .i64) (j:Int))]) (fun _=>[]) (fun j=>j≤ss.length∧(k,p) ∉ ss.take j) (fun j=>ss.length - j) 0 ?_ ?_ ?_
 ·dsimp only [x146_0d]
  simp only [go_sem,YA,YS,YM,YL,YE,YD,YB,YN,YR,reduceIte,reduceCtorEq,↓reduceIte]
  try rfl
 ·exact ⟨Nat.zero_le _,by simp⟩
 ·rintro j ⟨hj,hn⟩
  dsimp only [x146_0,x146_0d,Z8,Za,Zf]
  simp only [↓hcsIxs,go_sem,YA,YS,YM,YL,YE,YD,YB,YN,YR,reduceIte,reduceCtorEq,↓reduceIte]
  try simp only [td,reduceCtorEq]
  have w2:j < ss.length→IntKind.i64.wrap ((j:Int)+1)=((j+1:Nat):Int):=fun h=>i64_in _ (by omega)
  refine ⟨fun hj'=>⟨hj',fun e=>(atF_at (x:=(k,p)) hj' (Prod.ext e.1.symm e.2.symm) hn).symm,fun e=>⟨j+1,by omega,⟨hj',at_next hj' hn fun q=>e (congrArg Prod.fst q).symm (congrArg Prod.snd q).symm⟩,w2 hj'⟩⟩,fun hj'=>(atF_none (at_end (by omega) hn)).symm⟩
end T
end Go.Proofs.YtcnfmabhghhdnaaGreat
end
