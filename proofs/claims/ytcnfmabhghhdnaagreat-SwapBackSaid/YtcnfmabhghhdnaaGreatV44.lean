/- Parts of the proof (put together by a program): definitions, lemmas, and the law; no condition. -/
import Derived.Test.YtcnfmabhghhdnaaGreatV34
import Derived.Test.YtcnfmabhghhdnaaGreatV38
import Derived.Test.YtcnfmabhghhdnaaGreatV6
set_option linter.unusedVariables false
set_option linter.unusedSimpArgs false
open Nat renaming reduceAdd → YA, reduceSub → YS, reduceMul → YM, reduceLT → YL, reduceLeDiff → YE, reduceEqDiff → YD, reduceBEq → YB, reduceBNe → YN
open List renaming reduceReplicate → YR
section
namespace Go.Proofs.YtcnfmabhghhdnaaGreat
open Go.RowKit Go.IntWalk
namespace T
def entAt23:Ent:=⟨22,.cons (.sl (.st (.cons (.int .i64) .bool))) (.cons (.int .i64) (.cons .bool .nil)),(.int .i64),false,none,fun _=>True,fun x=>atF (x.2.1,x.2.2.1) x.1⟩
def csAt23:List Ent:=[] theorem hcsAt23 (f:FuncId):findEnt csAt23 f=findEnt [] f:=rfl
theorem conAt23:Con Tryz.prog entAt23:=by
 refine con_is (C:=csAt23) x22 (by kernel_rfl) (by simp [csAt23]) fun x hx hf=>?_
 obtain ⟨(ss:List DStop),(k:Int),(p:Bool),_⟩:=x
 have hl:ss.length≤9223372036854775807:=hf.1.1
 dsimp only [entAt23,x22];simp only [↓hcsAt23,go_sem,YA,YS,YM,YL,YE,YD,YB,YN,YR,reduceIte,reduceCtorEq,↓reduceIte];try simp only [td,reduceCtorEq]
 refine XW_for 1000 x22_0d [] Nat (fun j=>[(7,.val (.int .i64) (j:Int))]) (fun _=>[]) (fun j=>j≤ss.length∧(k,p) ∉ ss.take j) (fun j=>ss.length - j) 0 ?_ ?_ ?_
 ·dsimp only [x22_0d]
  simp only [go_sem,YA,YS,YM,YL,YE,YD,YB,YN,YR,reduceIte,reduceCtorEq,↓reduceIte]
  try rfl
 ·exact ⟨Nat.zero_le _,by simp⟩
 ·rintro j ⟨hj,hn⟩
  dsimp only [x22_0,x22_0d,Z1,Z8,Za,Zb,Zc,Ze]
  simp only [↓hcsAt23,go_sem,YA,YS,YM,YL,YE,YD,YB,YN,YR,reduceIte,reduceCtorEq,↓reduceIte]
  try simp only [td,reduceCtorEq]
  have w2:j < ss.length→IntKind.i64.wrap ((j:Int)+1)=((j+1:Nat):Int):=fun h=>i64_in _ (by omega)
  refine ⟨fun hj'=>⟨⟨hj',fun e=>⟨e,hj'⟩⟩,fun e=>(atF_at (x:=(k,p)) hj' (Prod.ext e.1 e.2) hn).symm,fun e=>⟨j+1,by omega,⟨hj',at_next hj' hn fun q=>e (congrArg Prod.fst q) (congrArg Prod.snd q)⟩,w2 hj'⟩⟩,fun hj'=>(atF_none (at_end (by omega) hn)).symm⟩
def entWot23:Ent:=⟨24,.cons (.sl (.st (.cons (.int .i64) .bool))) (.cons (.int .i64) .nil),(.sl (.st (.cons (.int .i64) .bool))),false,none,fun x=>List.length (α:=DStop) x.1≤1000000,fun x=>outS x.1 x.2.1⟩
def csWot23:List Ent:=[] theorem hcsWot23 (f:FuncId):findEnt csWot23 f=findEnt [] f:=rfl
theorem conWot23:Con Tryz.prog entWot23:=by
 refine con_is (C:=csWot23) x24 (by kernel_rfl) (by simp [csWot23]) fun x hx hf=>?_
 obtain ⟨(ss:List DStop),(r:Int),_⟩:=x
 have hl:ss.length≤1000000:=hx
 dsimp only [entWot23,x24,Z8,Zb,Zg];simp only [↓hcsWot23,go_sem,YA,YS,YM,YL,YE,YD,YB,YN,YR,reduceIte,reduceCtorEq,↓reduceIte];try simp only [td,reduceCtorEq]
 refine XW_for 1000 x24_0d [] Nat (fun j=>[(6,.val (.int .i64) (j:Int)),(5,.own 5)]) (fun j=>[(5,.row 94 (.st (.cons (.int .i64) .bool)) (outS (ss.take j) r))]) (fun j=>j≤ss.length) (fun j=>ss.length - j) 0 ?_ ?_ ?_
 ·dsimp only [x24_0d]
  simp only [go_sem,YA,YS,YM,YL,YE,YD,YB,YN,YR,reduceIte,reduceCtorEq,↓reduceIte]
  try trivial
 ·exact Nat.zero_le _
 intro j hj
 dsimp only [x24_0,x24_0d,Z1,Z8,Za,Zb,Zc]
 by_cases hj':j < ss.length
 ·have w2:IntKind.i64.wrap ((j:Int)+1)=((j+1:Nat):Int):=i64_in _ (by omega)
  have hlo:=outS_len (ss.take j) r
  rw [List.length_take] at hlo
  have hb:((outS (ss.take j) r).length+1) * 16≤140737488355328:=by omega
  have hn:=outS_take (r:=r) hj'
  by_cases c:(ss.getD j dStop).1=r
  ·rw [if_pos c] at hn
   simp only [↓hcsWot23,undef,hj',w2,c,hb,go_sem,YA,YS,YM,YL,YE,YD,YB,YN,YR,reduceIte,reduceCtorEq,↓reduceIte]
   try simp only [hj',w2,c,hb,td,reduceCtorEq]
   exact ⟨j+1,by omega,by omega,rfl,hn.symm⟩
  ·rw [if_neg c] at hn
   simp only [↓hcsWot23,undef,hj',w2,c,hb,go_sem,YA,YS,YM,YL,YE,YD,YB,YN,YR,reduceIte,reduceCtorEq,↓reduceIte]
   try simp only [hj',w2,c,hb,td,reduceCtorEq]
   exact ⟨j+1,by omega,by omega,rfl,hn.symm⟩
 ·obtain rfl:j=ss.length:=by omega
  simp only [↓hcsWot23,undef,hj',List.take_length,go_sem,YA,YS,YM,YL,YE,YD,YB,YN,YR,reduceIte,reduceCtorEq,↓reduceIte]
  try simp only [hj',List.take_length,td,reduceCtorEq]
end T
end Go.Proofs.YtcnfmabhghhdnaaGreat
end
