/- Parts of the proof, merged (by a program): definitions and lemmas for the law; no condition. -/
import Derived.Test.YtecdcopihghnaaaGreatV8
section
namespace Go.Proofs.YtecdcopihghnaaaGreat
set_option linter.unusedVariables false
set_option linter.unusedSimpArgs false
open Go.RowKit Go.IntWalk
namespace T
def entIdxFuncCar:Ent:=⟨126,.cons (.sl (.st (.cons (.int .i64) (.cons (.int .i64) (.cons (.int .i64) (.cons (.int .i64) (.cons (.int .i64) (.cons (.int .i64) (.cons (.int .i64) (.cons (.int .i64) (.int .i64))))))))))) (.cons (.fn (.st (.cons (.int .i64) (.cons (.int .i64) (.cons (.int .i64) (.cons (.int .i64) (.cons (.int .i64) (.cons (.int .i64) (.cons (.int .i64) (.cons (.int .i64) (.int .i64)))))))))) .bool) .nil),(.int .i64),false,none,fun _=>True,fun x=>idxF x.2.1 x.1⟩
theorem conIdxFuncCar:Con Tryz.prog entIdxFuncCar:=by
 refine con_is (C:=[]) x126 (by kernel_rfl) (by simp) fun x _ hf=>?_
 obtain ⟨(xs:List DCar),(p:DCar→Bool),_⟩:=x
 have hl:xs.length≤maxLen:=hf.1.1
 dsimp only [entIdxFuncCar,x126];simp only [go_sem,Nat.reduceAdd,Nat.reduceSub,Nat.reduceMul,Nat.reduceLT,Nat.reduceLeDiff,Nat.reduceEqDiff,Nat.reduceBEq,Nat.reduceBNe,List.reduceReplicate,reduceIte,reduceCtorEq,↓reduceIte]
 refine XW_for 1000 x126_0d [] Nat (fun k=>[(8,.val (.int .i64) (k:Int))]) (fun _=>[]) (fun k=>k≤xs.length∧∀ j,j < k→p (xs.getD j (0,0,0,0,0,0,0,0,0))=false) (fun k=>xs.length - k) 0 ?_ ?_ ?_
 ·dsimp only [x126_0d];simp only [go_sem,Nat.reduceAdd,Nat.reduceSub,Nat.reduceMul,Nat.reduceLT,Nat.reduceLeDiff,Nat.reduceEqDiff,Nat.reduceBEq,Nat.reduceBNe,List.reduceReplicate,reduceIte,reduceCtorEq,↓reduceIte]
  rfl
 ·exact ⟨by omega,fun j hj=>by omega⟩
 ·intro k hk
  dsimp only [x126_0,x126_0d];simp only [go_sem,Nat.reduceAdd,Nat.reduceSub,Nat.reduceMul,Nat.reduceLT,Nat.reduceLeDiff,Nat.reduceEqDiff,Nat.reduceBEq,Nat.reduceBNe,List.reduceReplicate,reduceIte,reduceCtorEq,↓reduceIte]
  dsimp only [maxLen] at hl
  by_cases hkl:k < xs.length
  ·simp only [hkl,td,reduceCtorEq]
   refine ⟨fun h=>(idxF_at hkl hk.2 h).symm,fun h=>⟨k+1,by omega,⟨by omega,fun j hj=>?_⟩,i64_in _ (by omega)⟩⟩
   rcases Nat.lt_succ_iff_lt_or_eq.1 hj with h' | rfl
   ·exact hk.2 j h'
   ·exact h
  ·simp only [hkl,td,reduceCtorEq]
   exact (idxF_none fun j hj=>hk.2 j (by omega)).symm
def entConFuncCar:Ent:=⟨67,.cons (.sl (.st (.cons (.int .i64) (.cons (.int .i64) (.cons (.int .i64) (.cons (.int .i64) (.cons (.int .i64) (.cons (.int .i64) (.cons (.int .i64) (.cons (.int .i64) (.int .i64))))))))))) (.cons (.fn (.st (.cons (.int .i64) (.cons (.int .i64) (.cons (.int .i64) (.cons (.int .i64) (.cons (.int .i64) (.cons (.int .i64) (.cons (.int .i64) (.cons (.int .i64) (.int .i64)))))))))) .bool) .nil),.bool,false,none,fun _=>True,fun x=>x.1.any x.2.1⟩
theorem conConFuncCar:Con Tryz.prog entConFuncCar:=by
 refine con_is (C:=[entIdxFuncCar]) x67 (by kernel_rfl) (by simp [conIdxFuncCar]) fun x _ hf=>?_
 obtain ⟨(xs:List DCar),(p:DCar→Bool),_⟩:=x
 dsimp only [entConFuncCar,entIdxFuncCar,x67];simp only [go_sem,Nat.reduceAdd,Nat.reduceSub,Nat.reduceMul,Nat.reduceLT,Nat.reduceLeDiff,Nat.reduceEqDiff,Nat.reduceBEq,Nat.reduceBNe,List.reduceReplicate,reduceIte,reduceCtorEq,↓reduceIte]
 refine eq_of_iff ?_
 rw [← idxF_any]
 simp
def entIdxFuncReq:Ent:=⟨127,.cons (.sl (.st (.cons (.int .i64) (.cons (.int .i64) (.cons (.int .i64) (.cons (.int .i64) (.cons (.int .i64) (.cons (.int .i64) (.cons (.int .i64) (.cons (.int .i64) (.cons (.int .i64) (.int .i64)))))))))))) (.cons (.fn (.st (.cons (.int .i64) (.cons (.int .i64) (.cons (.int .i64) (.cons (.int .i64) (.cons (.int .i64) (.cons (.int .i64) (.cons (.int .i64) (.cons (.int .i64) (.cons (.int .i64) (.int .i64))))))))))) .bool) .nil),(.int .i64),false,none,fun _=>True,fun x=>idxF x.2.1 x.1⟩
theorem conIdxFuncReq:Con Tryz.prog entIdxFuncReq:=by
 refine con_is (C:=[]) x127 (by kernel_rfl) (by simp) fun x _ hf=>?_
 obtain ⟨(xs:List DReq),(p:DReq→Bool),_⟩:=x
 have hl:xs.length≤maxLen:=hf.1.1
 dsimp only [entIdxFuncReq,x127];simp only [go_sem,Nat.reduceAdd,Nat.reduceSub,Nat.reduceMul,Nat.reduceLT,Nat.reduceLeDiff,Nat.reduceEqDiff,Nat.reduceBEq,Nat.reduceBNe,List.reduceReplicate,reduceIte,reduceCtorEq,↓reduceIte]
 refine XW_for 1000 x127_0d [] Nat (fun k=>[(8,.val (.int .i64) (k:Int))]) (fun _=>[]) (fun k=>k≤xs.length∧∀ j,j < k→p (xs.getD j dReq)=false) (fun k=>xs.length - k) 0 ?_ ?_ ?_
 ·dsimp only [x127_0d];simp only [go_sem,Nat.reduceAdd,Nat.reduceSub,Nat.reduceMul,Nat.reduceLT,Nat.reduceLeDiff,Nat.reduceEqDiff,Nat.reduceBEq,Nat.reduceBNe,List.reduceReplicate,reduceIte,reduceCtorEq,↓reduceIte]
  rfl
 ·exact ⟨by omega,fun j hj=>by omega⟩
 ·intro k hk
  dsimp only [x127_0,x127_0d];simp only [go_sem,Nat.reduceAdd,Nat.reduceSub,Nat.reduceMul,Nat.reduceLT,Nat.reduceLeDiff,Nat.reduceEqDiff,Nat.reduceBEq,Nat.reduceBNe,List.reduceReplicate,reduceIte,reduceCtorEq,↓reduceIte]
  dsimp only [maxLen] at hl
  by_cases hkl:k < xs.length
  ·simp only [hkl,td,reduceCtorEq]
   refine ⟨fun h=>(idxF_at hkl hk.2 h).symm,fun h=>⟨k+1,by omega,⟨by omega,fun j hj=>?_⟩,i64_in _ (by omega)⟩⟩
   rcases Nat.lt_succ_iff_lt_or_eq.1 hj with h' | rfl
   ·exact hk.2 j h'
   ·exact h
  ·simp only [hkl,td,reduceCtorEq]
   exact (idxF_none fun j hj=>hk.2 j (by omega)).symm
def entConFuncReq:Ent:=⟨68,.cons (.sl (.st (.cons (.int .i64) (.cons (.int .i64) (.cons (.int .i64) (.cons (.int .i64) (.cons (.int .i64) (.cons (.int .i64) (.cons (.int .i64) (.cons (.int .i64) (.cons (.int .i64) (.int .i64)))))))))))) (.cons (.fn (.st (.cons (.int .i64) (.cons (.int .i64) (.cons (.int .i64) (.cons (.int .i64) (.cons (.int .i64) (.cons (.int .i64) (.cons (.int .i64) (.cons (.int .i64) (.cons (.int .i64) (.int .i64))))))))))) .bool) .nil),.bool,false,none,fun _=>True,fun x=>x.1.any x.2.1⟩
theorem conConFuncReq:Con Tryz.prog entConFuncReq:=by
 refine con_is (C:=[entIdxFuncReq]) x68 (by kernel_rfl) (by simp [conIdxFuncReq]) fun x _ hf=>?_
 obtain ⟨(xs:List DReq),(p:DReq→Bool),_⟩:=x
 dsimp only [entConFuncReq,entIdxFuncReq,x68];simp only [go_sem,Nat.reduceAdd,Nat.reduceSub,Nat.reduceMul,Nat.reduceLT,Nat.reduceLeDiff,Nat.reduceEqDiff,Nat.reduceBEq,Nat.reduceBNe,List.reduceReplicate,reduceIte,reduceCtorEq,↓reduceIte]
 refine eq_of_iff ?_
 rw [← idxF_any]
 simp
def entIdxFuncPr:Ent:=⟨128,.cons (.sl (.st (.cons (.int .i64) (.cons (.int .i64) .bool)))) (.cons (.fn (.st (.cons (.int .i64) (.cons (.int .i64) .bool))) .bool) .nil),(.int .i64),false,none,fun _=>True,fun x=>idxF x.2.1 x.1⟩
theorem conIdxFuncPr:Con Tryz.prog entIdxFuncPr:=by
 refine con_is (C:=[]) x128 (by kernel_rfl) (by simp) fun x _ hf=>?_
 obtain ⟨(xs:List DPair),(p:DPair→Bool),_⟩:=x
 have hl:xs.length≤maxLen:=hf.1.1
 dsimp only [entIdxFuncPr,x128];simp only [go_sem,Nat.reduceAdd,Nat.reduceSub,Nat.reduceMul,Nat.reduceLT,Nat.reduceLeDiff,Nat.reduceEqDiff,Nat.reduceBEq,Nat.reduceBNe,List.reduceReplicate,reduceIte,reduceCtorEq,↓reduceIte]
 refine XW_for 1000 x128_0d [] Nat (fun k=>[(8,.val (.int .i64) (k:Int))]) (fun _=>[]) (fun k=>k≤xs.length∧∀ j,j < k→p (xs.getD j (0,0,false))=false) (fun k=>xs.length - k) 0 ?_ ?_ ?_
 ·dsimp only [x128_0d];simp only [go_sem,Nat.reduceAdd,Nat.reduceSub,Nat.reduceMul,Nat.reduceLT,Nat.reduceLeDiff,Nat.reduceEqDiff,Nat.reduceBEq,Nat.reduceBNe,List.reduceReplicate,reduceIte,reduceCtorEq,↓reduceIte]
  rfl
 ·exact ⟨by omega,fun j hj=>by omega⟩
 ·intro k hk
  dsimp only [x128_0,x128_0d];simp only [go_sem,Nat.reduceAdd,Nat.reduceSub,Nat.reduceMul,Nat.reduceLT,Nat.reduceLeDiff,Nat.reduceEqDiff,Nat.reduceBEq,Nat.reduceBNe,List.reduceReplicate,reduceIte,reduceCtorEq,↓reduceIte]
  dsimp only [maxLen] at hl
  by_cases hkl:k < xs.length
  ·simp only [hkl,td,reduceCtorEq]
   refine ⟨fun h=>(idxF_at hkl hk.2 h).symm,fun h=>⟨k+1,by omega,⟨by omega,fun j hj=>?_⟩,i64_in _ (by omega)⟩⟩
   rcases Nat.lt_succ_iff_lt_or_eq.1 hj with h' | rfl
   ·exact hk.2 j h'
   ·exact h
  ·simp only [hkl,td,reduceCtorEq]
   exact (idxF_none fun j hj=>hk.2 j (by omega)).symm
def entConFuncPr:Ent:=⟨69,.cons (.sl (.st (.cons (.int .i64) (.cons (.int .i64) .bool)))) (.cons (.fn (.st (.cons (.int .i64) (.cons (.int .i64) .bool))) .bool) .nil),.bool,false,none,fun _=>True,fun x=>x.1.any x.2.1⟩
theorem conConFuncPr:Con Tryz.prog entConFuncPr:=by
 refine con_is (C:=[entIdxFuncPr]) x69 (by kernel_rfl) (by simp [conIdxFuncPr]) fun x _ hf=>?_
 obtain ⟨(xs:List DPair),(p:DPair→Bool),_⟩:=x
 dsimp only [entConFuncPr,entIdxFuncPr,x69];simp only [go_sem,Nat.reduceAdd,Nat.reduceSub,Nat.reduceMul,Nat.reduceLT,Nat.reduceLeDiff,Nat.reduceEqDiff,Nat.reduceBEq,Nat.reduceBNe,List.reduceReplicate,reduceIte,reduceCtorEq,↓reduceIte]
 refine eq_of_iff ?_
 rw [← idxF_any]
 simp
def entPin1:Ent:=⟨86,.cons (.int .i64) (.cons (.ptr (.int .i64)) .nil),.bool,false,none,fun _=>True,fun x=>!decide (0≤(x.1:Int)∧(x.1:Int)≤(x.2.1:Int))⟩
def csPi1:List Ent:=[] theorem hcsPi1 (f:FuncId):findEnt csPi1 f=findEnt [] f:=rfl
theorem conPin1:Con Tryz.prog entPin1:=by
 refine con_is (C:=csPi1) x86 (by kernel_rfl) (by simp [csPi1]) fun x hx hf=>?_
 obtain ⟨(n:Int),(m:Int),_⟩:=x
 dsimp only [entPin1,x86];simp only [↓hcsPi1,go_sem,Nat.reduceAdd,Nat.reduceSub,Nat.reduceMul,Nat.reduceLT,Nat.reduceLeDiff,Nat.reduceEqDiff,Nat.reduceBEq,Nat.reduceBNe,List.reduceReplicate,reduceIte,reduceCtorEq,↓reduceIte];try simp only [td,reduceCtorEq]
 rw [Bool.eq_iff_iff]
 simp
 try omega
def entPin:Ent:=⟨38,.cons (.int .i64) (.cons (.sl (.int .i64)) .nil),.bool,false,none,fun _=>True,fun x=>allIn x.1 x.2.1⟩
def csPin:List Ent:=[entPin1,entConFuncI] theorem hcsPin (f:FuncId):findEnt csPin f=findEnt [entPin1,entConFuncI] f:=rfl
theorem conPin:Con Tryz.prog entPin:=by
 refine con_is (C:=csPin) x38 (by kernel_rfl) (by simp [csPin,conPin1,conConFuncI]) fun x hx hf=>?_
 obtain ⟨(m:Int),(l:List Int),_⟩:=x
 dsimp only [entPin,x38];simp only [↓hcsPin,entPin1,entConFuncI,go_sem,Nat.reduceAdd,Nat.reduceSub,Nat.reduceMul,Nat.reduceLT,Nat.reduceLeDiff,Nat.reduceEqDiff,Nat.reduceBEq,Nat.reduceBNe,List.reduceReplicate,reduceIte,reduceCtorEq,↓reduceIte];try simp only [td,reduceCtorEq]
 unfold allIn
 rw [not_any]
def entPr1:Ent:=⟨64,.cons (.st (.cons (.int .i64) (.cons (.int .i64) (.cons (.int .i64) (.cons (.int .i64) (.cons (.int .i64) (.cons (.int .i64) (.cons (.int .i64) (.cons (.int .i64) (.int .i64)))))))))) (.cons (.ptr (.st (.cons (.int .i64) (.cons (.sl (.st (.cons (.int .i64) (.cons (.int .i64) (.cons (.sl (.int .i64)) (.sl (.int .i64))))))) (.cons (.sl (.st (.cons (.int .i64) (.cons (.int .i64) (.cons (.int .i64) (.cons (.int .i64) (.cons (.int .i64) (.cons (.int .i64) (.cons (.int .i64) (.cons (.int .i64) (.int .i64))))))))))) (.cons (.sl (.st (.cons (.int .i64) (.cons (.int .i64) (.cons (.int .i64) (.cons (.int .i64) (.cons (.int .i64) (.cons (.int .i64) (.cons (.int .i64) (.cons (.int .i64) (.cons (.int .i64) (.int .i64)))))))))))) (.cons (.sl (.st (.cons (.int .i64) (.cons (.int .i64) .bool)))) (.st (.cons (.int .i64) (.cons (.int .i64) (.int .i64))))))))))) .nil),.bool,false,none,fun _=>True,fun x=>!carB (IntKind.i64.wrap ((x.2.1:DWorld).1 - 1)) x.1⟩
def csPr1:List Ent:=[entPin] theorem hcsPr1 (f:FuncId):findEnt csPr1 f=findEnt [entPin] f:=rfl
set_option maxHeartbeats 4000000 in
theorem conPr1:Con Tryz.prog entPr1:=by
 refine con_is (C:=csPr1) x64 (by kernel_rfl) (by simp [csPr1,conPin]) fun x hx hf=>?_
 obtain ⟨⟨(o:Int),(n:Int),(r:Int),(e:Int),(s:Int),(c:Int),(b:Int),(g:Int),(f:Int)⟩,⟨(N:Int),(A:List DArc),(C:List DCar),(Q:List DReq),(P:List DPair),(S:DShift)⟩,_⟩:=x
 cases h1:allIn (IntKind.i64.wrap (N - 1)) [n] <;> cases h2:allIn 1048576 [r,e] <;> by_cases h3:r > e <;>
 ·have h3':=h3
  rw [gt_iff_lt] at h3'
  dsimp only [entPr1,x64]
  simp only [↓hcsPr1,entPin,undef,h1,h2,h3,h3',go_sem,Nat.reduceAdd,Nat.reduceSub,Nat.reduceMul,Nat.reduceLT,Nat.reduceLeDiff,Nat.reduceEqDiff,Nat.reduceBEq,Nat.reduceBNe,List.reduceReplicate,reduceIte,reduceCtorEq,↓reduceIte]
  try simp only [h1,h2,h3,td,reduceCtorEq]
  unfold carB
  simp [h1,h2,h3]
  try omega
def entPr2:Ent:=⟨65,.cons (.st (.cons (.int .i64) (.cons (.int .i64) (.cons (.int .i64) (.cons (.int .i64) (.cons (.int .i64) (.cons (.int .i64) (.cons (.int .i64) (.cons (.int .i64) (.cons (.int .i64) (.int .i64))))))))))) (.cons (.ptr (.st (.cons (.int .i64) (.cons (.sl (.st (.cons (.int .i64) (.cons (.int .i64) (.cons (.sl (.int .i64)) (.sl (.int .i64))))))) (.cons (.sl (.st (.cons (.int .i64) (.cons (.int .i64) (.cons (.int .i64) (.cons (.int .i64) (.cons (.int .i64) (.cons (.int .i64) (.cons (.int .i64) (.cons (.int .i64) (.int .i64))))))))))) (.cons (.sl (.st (.cons (.int .i64) (.cons (.int .i64) (.cons (.int .i64) (.cons (.int .i64) (.cons (.int .i64) (.cons (.int .i64) (.cons (.int .i64) (.cons (.int .i64) (.cons (.int .i64) (.int .i64)))))))))))) (.cons (.sl (.st (.cons (.int .i64) (.cons (.int .i64) .bool)))) (.st (.cons (.int .i64) (.cons (.int .i64) (.int .i64))))))))))) .nil),.bool,false,none,fun _=>True,fun x=>!reqB (IntKind.i64.wrap ((x.2.1:DWorld).1 - 1)) x.1⟩
def csPr2:List Ent:=[entPin] theorem hcsPr2 (f:FuncId):findEnt csPr2 f=findEnt [entPin] f:=rfl
set_option maxHeartbeats 4000000 in
theorem conPr2:Con Tryz.prog entPr2:=by
 refine con_is (C:=csPr2) x65 (by kernel_rfl) (by simp [csPr2,conPin]) fun x hx hf=>?_
 obtain ⟨⟨(m:Int),(f:Int),(t:Int),(e:Int),(l:Int),(d:Int),(r:Int),(s:Int),(c:Int),(b:Int)⟩,⟨(N:Int),(A:List DArc),(C:List DCar),(Q:List DReq),(P:List DPair),(S:DShift)⟩,_⟩:=x
 cases h1:allIn 1048576 [e,l,d,r] <;> by_cases h2:e≤l <;> cases h3:allIn 3999 [m] <;> cases h4:allIn (IntKind.i64.wrap (N - 1)) [f,t] <;>
 ·dsimp only [entPr2,x65]
  simp only [↓hcsPr2,entPin,undef,h1,h2,h3,h4,go_sem,Nat.reduceAdd,Nat.reduceSub,Nat.reduceMul,Nat.reduceLT,Nat.reduceLeDiff,Nat.reduceEqDiff,Nat.reduceBEq,Nat.reduceBNe,List.reduceReplicate,reduceIte,reduceCtorEq,↓reduceIte]
  try simp only [h1,h2,h3,h4,td,reduceCtorEq]
  unfold reqB
  simp [h1,h2,h3,h4]
def entPr3:Ent:=⟨66,.cons (.st (.cons (.int .i64) (.cons (.int .i64) .bool))) .nil,.bool,false,none,fun _=>True,fun x=>!prB x.1⟩
def csPr3:List Ent:=[entPin] theorem hcsPr3 (f:FuncId):findEnt csPr3 f=findEnt [entPin] f:=rfl
theorem conPr3:Con Tryz.prog entPr3:=by
 refine con_is (C:=csPr3) x66 (by kernel_rfl) (by simp [csPr3,conPin]) fun x hx hf=>?_
 obtain ⟨⟨(a:Int),(b:Int),(m:Bool)⟩,_⟩:=x
 dsimp only [entPr3,x66];simp only [↓hcsPr3,entPin,go_sem,Nat.reduceAdd,Nat.reduceSub,Nat.reduceMul,Nat.reduceLT,Nat.reduceLeDiff,Nat.reduceEqDiff,Nat.reduceBEq,Nat.reduceBNe,List.reduceReplicate,reduceIte,reduceCtorEq,↓reduceIte];try simp only [td,reduceCtorEq]
 rfl
def entPlR:Ent:=⟨30,.cons (.st (.cons (.int .i64) (.cons (.sl (.st (.cons (.int .i64) (.cons (.int .i64) (.cons (.sl (.int .i64)) (.sl (.int .i64))))))) (.cons (.sl (.st (.cons (.int .i64) (.cons (.int .i64) (.cons (.int .i64) (.cons (.int .i64) (.cons (.int .i64) (.cons (.int .i64) (.cons (.int .i64) (.cons (.int .i64) (.int .i64))))))))))) (.cons (.sl (.st (.cons (.int .i64) (.cons (.int .i64) (.cons (.int .i64) (.cons (.int .i64) (.cons (.int .i64) (.cons (.int .i64) (.cons (.int .i64) (.cons (.int .i64) (.cons (.int .i64) (.int .i64)))))))))))) (.cons (.sl (.st (.cons (.int .i64) (.cons (.int .i64) .bool)))) (.st (.cons (.int .i64) (.cons (.int .i64) (.int .i64)))))))))) .nil,.bool,false,none,fun _=>True,fun x=>rightP x.1⟩
def csPlR:List Ent:=[entRoad,entConFuncCar,entConFuncReq,entConFuncPr,entPr1,entPr2,entPr3,entWkR] theorem hcsPlR (f:FuncId):findEnt csPlR f=findEnt [entRoad,entConFuncCar,entConFuncReq,entConFuncPr,entPr1,entPr2,entPr3,entWkR] f:=rfl
theorem conPlR:Con Tryz.prog entPlR:=by
 refine con_is (C:=csPlR) x30 (by kernel_rfl) (by simp [csPlR,conRoad,conConFuncCar,conConFuncReq,conConFuncPr,conPr1,conPr2,conPr3,conWkR]) fun x hx hf=>?_
 obtain ⟨⟨(N:Int),(A:List DArc),(C:List DCar),(Q:List DReq),(P:List DPair),(S:DShift)⟩,_⟩:=x
 dsimp only [entPlR,x30];simp only [↓hcsPlR,entRoad,entConFuncCar,entConFuncReq,entConFuncPr,entPr1,entPr2,entPr3,entWkR,go_sem,Nat.reduceAdd,Nat.reduceSub,Nat.reduceMul,Nat.reduceLT,Nat.reduceLeDiff,Nat.reduceEqDiff,Nat.reduceBEq,Nat.reduceBNe,List.reduceReplicate,reduceIte,reduceCtorEq,↓reduceIte];try simp only [td,reduceCtorEq]
 obtain ⟨S1,S2,S3⟩:=S
 refine ⟨fun h=>?_,?_⟩
 ·symm
  rw [← Bool.not_eq_true]
  intro q
  obtain ⟨q1,q2,_⟩:=rightP_iff.1 q
  dsimp only at q1 q2
  rcases h with ((h | h) | h) | h
  ·rw [h] at q1;cases q1
  ·omega
  ·omega
  ·omega
 ·rintro ⟨⟨⟨h1,h2⟩,h3⟩,h4⟩
  have hn:=rightR_n h1
  rw [i64_in (N - 1) (by omega),not_any,not_any,not_any]
  unfold rightP
  dsimp only
  rw [h1,decide_eq_true (by omega),Bool.true_and,Bool.true_and,Bool.and_assoc,Bool.and_assoc]
end T
end Go.Proofs.YtecdcopihghnaaaGreat
end
section
namespace Go.Proofs.YtecdcopihghnaaaGreat
set_option linter.unusedVariables false
set_option linter.unusedSimpArgs false
open Go.RowKit Go.IntWalk
def revTo (zs:List Int):Nat→List Int
 | 0=>zs
 | k+1=>((revTo zs k).set k ((revTo zs k).getD (zs.length - 1 - k) 0)).set (zs.length - 1 - k) ((revTo zs k).getD k 0)
theorem revTo_length (zs:List Int):∀ k,(revTo zs k).length=zs.length
 | 0=>rfl
 | k+1=>by rw [revTo,List.length_set,List.length_set,revTo_length zs k]
theorem revTo_get (zs:List Int):∀ k,2 * k≤zs.length→∀ p,p < zs.length→(revTo zs k).getD p 0=if p < k∨zs.length - 1 - p < k then zs.getD (zs.length - 1 - p) 0 else zs.getD p 0
 | 0,_,p,_=>by rw [if_neg (by omega)];rfl
 | k+1,hk,p,hp=>by
  have ih:=revTo_get zs k (by omega)
  have hl:=revTo_length zs k
  rw [revTo,List.getD_eq_getElem?_getD,List.getElem?_set]
  by_cases c:zs.length - 1 - k=p
  ·rw [if_pos c,if_pos (by rw [List.length_set];omega),Option.getD_some,ih k (by omega),if_neg (by omega),if_pos (by omega),show zs.length - 1 - p=k by omega]
  ·rw [if_neg c,List.getElem?_set]
   by_cases d:k=p
   ·rw [if_pos d,if_pos (by omega),Option.getD_some,ih _ (by omega),if_neg (by omega),if_pos (by omega),d]
   ·rw [if_neg d,← List.getD_eq_getElem?_getD,ih p hp]
    by_cases e:p < k∨zs.length - 1 - p < k
    ·rw [if_pos e,if_pos (by omega)]
    ·rw [if_neg e,if_neg (by omega)]
theorem revTo_end (zs:List Int) {k:Nat} (hk:2 * k≤zs.length) (h:zs.length≤2 * k+1):revTo zs k=zs.reverse:=by
 apply List.ext_getElem
 ·rw [revTo_length,List.length_reverse]
 ·intro p h1 h2
  rw [revTo_length] at h1
  have h3:=revTo_get zs k hk p h1
  rw [List.getD_eq_getElem?_getD,List.getElem?_eq_getElem (by rw [revTo_length];exact h1),Option.getD_some] at h3
  rw [h3,List.getElem_reverse]
  split
  ·rw [List.getD_eq_getElem?_getD,List.getElem?_eq_getElem (by omega),Option.getD_some]
  ·have e:zs.length - 1 - p=p:=by omega
   simp only [e]
   rw [List.getD_eq_getElem?_getD,List.getElem?_eq_getElem h1,Option.getD_some]
namespace T
def entWay:Ent:=⟨34,.cons (.sl (.st (.cons (.int .i64) (.int .i64)))) (.cons (.sl (.st (.cons (.int .i64) (.cons (.int .i64) (.cons (.sl (.int .i64)) (.sl (.int .i64))))))) (.cons (.int .i64) .nil)),(.sl (.int .i64)),false,none,fun x=>List.length (α:=DLab) x.1≤100000,fun x=>wayF x.1 x.2.1 x.2.2.1⟩
def csWy:List Ent:=[] theorem hcsWy (f:FuncId):findEnt csWy f=findEnt [] f:=rfl
theorem conWay:Con Tryz.prog entWay:=by
 refine con_is (C:=csWy) x34 (by kernel_rfl) (by simp [csWy]) fun x hx hf=>?_
 obtain ⟨(L:List DLab),(A:List DArc),(to:Int),_⟩:=x
 dsimp only [entWay,x34];simp only [↓hcsWy,go_sem,Nat.reduceAdd,Nat.reduceSub,Nat.reduceMul,Nat.reduceLT,Nat.reduceLeDiff,Nat.reduceEqDiff,Nat.reduceBEq,Nat.reduceBNe,List.reduceReplicate,reduceIte,reduceCtorEq,↓reduceIte]
 simp only [td,reduceCtorEq];try dsimp only [Ty.den]
 have hLl:L.length≤100000:=hx
 refine ⟨fun h=>?_,fun h=>?_⟩
 ·unfold wayF;rw [if_pos (or_assoc.1 h)]
 have e0:wayF L A to=wayGo L A L.length to []:=if_neg (by rintro (h2 | h2 | h2) <;> omega)
 rw [e0]
 refine XW_for 1000 x34_0d [17] (List Int × Int) (fun s=>[(7,.own 17),(2,.val (.int .i64) s.2)]) (fun s=>[(17,.row 3 (.int .i64) s.1)])
  (fun s=>(0≤s.2∧s.2 < L.length)∧s.1.length≤L.length∧wayGo L A (L.length - s.1.length) s.2 s.1.reverse=wayGo L A L.length to []) (fun s=>L.length - s.1.length) ([],to) ?_ ?_ ?_
 ·dsimp only [x34_0d]
  simp only [go_sem,Nat.reduceAdd,Nat.reduceSub,Nat.reduceMul,Nat.reduceLT,Nat.reduceLeDiff,Nat.reduceEqDiff,Nat.reduceBEq,Nat.reduceBNe,List.reduceReplicate,reduceIte,reduceCtorEq,↓reduceIte]
 ·exact ⟨⟨by omega,by omega⟩,Nat.zero_le _,rfl⟩
 ·rintro ⟨out,to'⟩ ⟨ht,hl,hgo⟩
  dsimp only at ht hl hgo
  dsimp only [x34_0,x34_0d]
  simp only [↓hcsWy,go_sem,Nat.reduceAdd,Nat.reduceSub,Nat.reduceMul,Nat.reduceLT,Nat.reduceLeDiff,Nat.reduceEqDiff,Nat.reduceBEq,Nat.reduceBNe,List.reduceReplicate,reduceIte,reduceCtorEq,↓reduceIte]
  try simp only [td,reduceCtorEq]
  refine ⟨ht,fun h1=>⟨ht,⟨fun h=>⟨h,h.1⟩,fun h=>⟨h,h.1.1⟩⟩,fun h2=>?_,fun h2=>⟨by omega,h2.1.1.1.1,(out ++ [(L.getD to'.toNat (0,0)).2],(A.getD (L.getD to'.toNat (0,0)).2.toNat (0,0,[],[])).1),?_,⟨⟨h2.1.1.2,h2.1.2⟩,?_,?_⟩,rfl,rfl⟩⟩,fun h1=>?_⟩
  ·rw [← hgo]
   by_cases c:out.length=L.length
   ·rw [c,Nat.sub_self,wayGo,if_neg h1]
   ·obtain ⟨f,hf⟩:∃ f,L.length - out.length=f+1:=⟨L.length - out.length - 1,by omega⟩
    rw [hf,wayGo,if_neg h1,if_pos]
    rcases h2 with ((((h2 | h2) | h2) | h2) | h2) | h2
    ·exact .inl h2
    ·exact .inr (.inl h2)
    ·exact .inr (.inr (.inl h2))
    ·exact .inr (.inr (.inr (.inl h2)))
    ·exact .inr (.inr (.inr (.inr h2)))
    ·exact absurd h2 c
  ·dsimp only
   rw [List.length_append,List.length_singleton];omega
  ·dsimp only
   rw [List.length_append,List.length_singleton];omega
  ·dsimp only
   rw [← hgo,List.length_append,List.length_singleton,List.reverse_append]
   obtain ⟨f,hf⟩:∃ f,L.length - out.length=f+1:=⟨L.length - out.length - 1,by omega⟩
   rw [hf,show L.length - (out.length+1)=f by omega]
   conv=>rhs;rw [wayGo,if_neg h1,if_neg (by
    rintro (h3 | h3 | h3 | h3 | h3)
    ·omega
    ·omega
    ·exact h3 h2.1.1.1.2
    ·omega
    ·omega)]
   rfl
  ·have hd:wayGo L A L.length to []=out.reverse:=by
    rw [← hgo]
    cases L.length - out.length <;> rw [wayGo,if_pos h1]
   rw [hd]
   clear hgo hd
   dsimp only [x81]
   simp only [↓hcsWy,go_sem,Nat.reduceAdd,Nat.reduceSub,Nat.reduceMul,Nat.reduceLT,Nat.reduceLeDiff,Nat.reduceEqDiff,Nat.reduceBEq,Nat.reduceBNe,List.reduceReplicate,reduceIte,reduceCtorEq,↓reduceIte]
   try simp only [td,reduceCtorEq]
   refine XW_for 2000 x81_0d [17] Nat (fun k=>[(2,.val (.int .i64) (k:Int)),(3,.val (.int .i64) ((out.length:Int) - 1 - k))]) (fun k=>[(17,.row 3 (.int .i64) (revTo out k))]) (fun k=>2 * k≤out.length) (fun k=>out.length - k) 0 ?_ ?_ ?_
   ·dsimp only [x81_0d]
    simp only [go_sem,Nat.reduceAdd,Nat.reduceSub,Nat.reduceMul,Nat.reduceLT,Nat.reduceLeDiff,Nat.reduceEqDiff,Nat.reduceBEq,Nat.reduceBNe,List.reduceReplicate,reduceIte,reduceCtorEq,↓reduceIte]
    refine ⟨⟨rfl,?_⟩,rfl⟩
    rw [i64_in ((out.length:Int) - 1) (by omega)];show (out.length:Int) - 1=(out.length:Int) - 1 - ((0:Nat):Int);omega
   ·exact Nat.zero_le _
   ·intro k hk
    dsimp only [x81_0,x81_0d]
    have hr:=revTo_length out k
    simp only [↓hcsWy,go_sem,Nat.reduceAdd,Nat.reduceSub,Nat.reduceMul,Nat.reduceLT,Nat.reduceLeDiff,Nat.reduceEqDiff,Nat.reduceBEq,Nat.reduceBNe,List.reduceReplicate,reduceIte,reduceCtorEq,↓reduceIte]
    try simp only [td,reduceCtorEq]
    have hn:((out.length:Int) - 1 - k).toNat=out.length - 1 - k:=by omega
    rw [hn]
    refine ⟨fun h2=>⟨?_,k+1,by omega,by omega,⟨i64_in _ (by omega),?_⟩,rfl⟩,fun h2=>revTo_end out hk (by omega)⟩
    ·rw [List.length_set];omega
    ·rw [i64_in ((out.length:Int) - 1 - k - 1) (by omega)];show (out.length:Int) - 1 - k - 1=(out.length:Int) - 1 - ((k+1:Nat):Int);omega
end T
end Go.Proofs.YtecdcopihghnaaaGreat
end
section
namespace Go.Proofs.YtecdcopihghnaaaGreat
set_option linter.unusedVariables false
set_option linter.unusedSimpArgs false
open Go.RowKit Go.IntWalk
namespace T
def entBnd:Ent:=⟨103,.cons (.st (.cons (.int .i64) (.cons (.int .i64) (.cons (.sl (.int .i64)) (.sl (.int .i64)))))) (.cons (.int .i64) (.cons (.int .i64) .nil)),(.st (.cons (.int .i64) (.int .i64))),false,none,fun x=>(toArc x.1).rightB=true∧(0≤(x.2.1:Int)∧(x.2.1:Int)≤100000000)∧0≤(x.2.2.1:Int)∧(x.2.2.1:Int)≤100000000,fun x=>bndF x.1 x.2.1 x.2.2.1⟩
def csBnd:List Ent:=[] theorem hcsBnd (f:FuncId):findEnt csBnd f=findEnt [] f:=rfl
theorem conBnd:Con Tryz.prog entBnd:=by
 refine con_is (C:=csBnd) x103 (by kernel_rfl) (by simp [csBnd]) fun x hx hf=>?_
 obtain ⟨⟨(g:Int),(u:Int),(L:List Int),(H:List Int)⟩,(f:Int),(t:Int),_⟩:=x
 obtain ⟨hr,⟨h1,h2⟩,h3,h4⟩:=hx
 replace hr:(toArc (g,u,L,H)).right:=of_decide_eq_true hr
 replace h1:0≤f:=h1
 replace h2:f≤100000000:=h2
 replace h3:0≤t:=h3
 replace h4:t≤100000000:=h4
 obtain ⟨p,hp⟩:∃ p:Nat,f / 60=p:=⟨(f / 60).toNat,by omega⟩
 obtain ⟨q,hq⟩:∃ q:Nat,t / 60=q:=⟨(t / 60).toNat,by omega⟩
 have e1:IntKind.i64.wrap (f.tdiv 60)=(p:Int):=by
  rw [Int.tdiv_eq_ediv_of_nonneg h1,hp]
  exact i64_in _ (by omega)
 have e2:IntKind.i64.wrap (t.tdiv 60)=(q:Int):=by
  rw [Int.tdiv_eq_ediv_of_nonneg h3,hq]
  exact i64_in _ (by omega)
 have e3:IntKind.i64.wrap ((p:Int)+24)=((p+24:Nat):Int):=i64_in _ (by omega)
 have e4:IntKind.i64.wrap (((p+24:Nat):Int) - 1)=((p+23:Nat):Int):=(i64_in _ (by omega)).trans (by omega)
 have e5:IntKind.i64.wrap ((p:Int)+1)=((p+1:Nat):Int):=i64_in _ (by omega)
 have e6:(if p+23 < q then ((p+23:Nat):Int) else (q:Int))=((min (p+23) q:Nat):Int):=by split <;> omega
 have tm:∀ k:Nat,(k:Int).tmod 24=((k % 24:Nat):Int):=fun k=>by
  rw [Int.tmod_eq_emod_of_nonneg (Int.natCast_nonneg k)]
  rfl
 have hn:hoursN f t=min (q - p) 23:=by unfold hoursN;rw [hp,hq];rfl
 have hL:L.length=24:=hr.2.2.1
 have hH:H.length=24:=hr.2.2.2.1
 have hm:∀ k:Nat,k % 24 < 24:=fun k=>Nat.mod_lt _ (by omega)
 dsimp only [entBnd,x103];simp only [↓hcsBnd,e1,e2,e3,e4,e5,e6,tm,hL,hH,hm,Int.toNat_natCast,go_sem,Nat.reduceAdd,Nat.reduceSub,Nat.reduceMul,Nat.reduceLT,Nat.reduceLeDiff,Nat.reduceEqDiff,Nat.reduceBEq,Nat.reduceBNe,List.reduceReplicate,reduceIte,reduceCtorEq,↓reduceIte]
 try simp only [e1,e2,e3,e4,e5,e6,tm,hL,hH,hm,Int.toNat_natCast,td,reduceCtorEq]
 generalize hM:min (p+23) q=m
 have n60:¬ (60:Int)=0:=by decide
 have n24:¬ (24:Int)=0:=by decide
 refine ⟨n60,?_⟩
 refine ⟨n24,?_⟩
 have hM2:hoursN f t=m - p:=by omega
 refine XW_for 1000 x103_0d [0,1] Nat (fun j=>[(10,.val (.int .i64) ((p+1+j:Nat):Int))]) (fun j=>[(26,.box 72 [.val (.int .i64) (lowB L p j),.val (.int .i64) (highB H p j)])]) (fun j=>j≤m - p) (fun j=>m - p - j) 0 ?_ ?_ ?_
 ·dsimp only [x103_0d]
  simp only [go_sem,Nat.reduceAdd,Nat.reduceSub,Nat.reduceMul,Nat.reduceLT,Nat.reduceLeDiff,Nat.reduceEqDiff,Nat.reduceBEq,Nat.reduceBNe,List.reduceReplicate,reduceIte,reduceCtorEq,↓reduceIte]
  exact ⟨rfl,rfl⟩
 ·exact Nat.zero_le _
 intro j hj
 by_cases hj':j < m - p
 ·have hc1:((p+1+j:Nat):Int)≤(m:Int):=by omega
  have hc2:p+1+j≤m:=by omega
  have w2:IntKind.i64.wrap (((p+1+j:Nat):Int)+1)=((p+1+(j+1):Nat):Int):=(i64_in _ (by omega)).trans (by omega)
  dsimp only [x103_0,x103_0d]
  simp only [↓hcsBnd,hc1,hc2,w2,tm,hL,hH,hm,Int.toNat_natCast,go_sem,Nat.reduceAdd,Nat.reduceSub,Nat.reduceMul,Nat.reduceLT,Nat.reduceLeDiff,Nat.reduceEqDiff,Nat.reduceBEq,Nat.reduceBNe,List.reduceReplicate,reduceIte,reduceCtorEq,↓reduceIte]
  try simp only [hc1,hc2,w2,tm,hL,hH,hm,Int.toNat_natCast,td,reduceCtorEq]
  refine ⟨n24,j+1,by omega,hj',rfl,?_,?_⟩
  ·show _=minI (lowB L p j) (L.getD ((p+(j+1)) % 24) 0)
   unfold minI
   rw [show p+1+j=p+(j+1) by omega]
  show _=maxI (highB H p j) (H.getD ((p+(j+1)) % 24) 0)
  unfold maxI
  rw [show p+1+j=p+(j+1) by omega]
 ·have hc1:¬ ((p+1+j:Nat):Int)≤(m:Int):=by omega
  have hc2:¬ p+1+j≤m:=by omega
  dsimp only [x103_0,x103_0d]
  simp only [↓hcsBnd,hc1,hc2,Int.toNat_natCast,go_sem,Nat.reduceAdd,Nat.reduceSub,Nat.reduceMul,Nat.reduceLT,Nat.reduceLeDiff,Nat.reduceEqDiff,Nat.reduceBEq,Nat.reduceBNe,List.reduceReplicate,reduceIte,reduceCtorEq,↓reduceIte]
  try simp only [hc1,hc2,Int.toNat_natCast,td,reduceCtorEq]
  unfold bndF
  rw [hM2,hp,Int.toNat_natCast,show j=m - p by omega]
def entLeg:Ent:=⟨23,.cons (.st (.cons (.int .i64) (.cons (.sl (.st (.cons (.int .i64) (.cons (.int .i64) (.cons (.sl (.int .i64)) (.sl (.int .i64))))))) (.cons (.sl (.st (.cons (.int .i64) (.cons (.int .i64) (.cons (.int .i64) (.cons (.int .i64) (.cons (.int .i64) (.cons (.int .i64) (.cons (.int .i64) (.cons (.int .i64) (.int .i64))))))))))) (.cons (.sl (.st (.cons (.int .i64) (.cons (.int .i64) (.cons (.int .i64) (.cons (.int .i64) (.cons (.int .i64) (.cons (.int .i64) (.cons (.int .i64) (.cons (.int .i64) (.cons (.int .i64) (.int .i64)))))))))))) (.cons (.sl (.st (.cons (.int .i64) (.cons (.int .i64) .bool)))) (.st (.cons (.int .i64) (.cons (.int .i64) (.int .i64)))))))))) (.cons (.int .i64) (.cons (.int .i64) (.cons (.st (.cons (.int .i64) (.int .i64))) .nil))),.cons (.st (.cons (.int .i64) (.int .i64))) (.cons .bool .nil),true,none,fun _=>True,fun x=>((LegF x.1 x.2.1 x.2.2.1 x.2.2.2.1).1,(LegF x.1 x.2.1 x.2.2.1 x.2.2.2.1).2,())⟩
def entLg20:Ent:=⟨46,.cons (.st (.cons (.int .i64) (.cons (.sl (.st (.cons (.int .i64) (.cons (.int .i64) (.cons (.sl (.int .i64)) (.sl (.int .i64))))))) (.cons (.sl (.st (.cons (.int .i64) (.cons (.int .i64) (.cons (.int .i64) (.cons (.int .i64) (.cons (.int .i64) (.cons (.int .i64) (.cons (.int .i64) (.cons (.int .i64) (.int .i64))))))))))) (.cons (.sl (.st (.cons (.int .i64) (.cons (.int .i64) (.cons (.int .i64) (.cons (.int .i64) (.cons (.int .i64) (.cons (.int .i64) (.cons (.int .i64) (.cons (.int .i64) (.cons (.int .i64) (.int .i64)))))))))))) (.cons (.sl (.st (.cons (.int .i64) (.cons (.int .i64) .bool)))) (.st (.cons (.int .i64) (.cons (.int .i64) (.int .i64)))))))))) (.cons (.int .i64) (.cons (.int .i64) (.cons (.st (.cons (.int .i64) (.int .i64))) .nil))),.cons (.st (.cons (.int .i64) (.int .i64))) (.cons .bool .nil),true,none,fun x=>rightP x.1=true∧((0≤(x.2.2.2.1:DWin).1∧(x.2.2.2.1:DWin).1≤1048576)∧0≤(x.2.2.2.1:DWin).2∧(x.2.2.2.1:DWin).2≤1048576)∧(x.2.2.2.1:DWin).1≤(x.2.2.2.1:DWin).2,fun x=>((legF x.1 x.2.1 x.2.2.1 x.2.2.2.1).1,(legF x.1 x.2.1 x.2.2.1 x.2.2.2.1).2,())⟩
def csLg2:List Ent:=[entEarly,entWay,entBnd] theorem hcsLg2 (f:FuncId):findEnt csLg2 f=findEnt [entEarly,entWay,entBnd] f:=rfl
theorem conLg20:Con Tryz.prog entLg20:=by
 refine con_is (C:=csLg2) x46 (by kernel_rfl) (by simp [csLg2,conEarly,conWay,conBnd]) fun x hx hf=>?_
 obtain ⟨⟨(N:Int),(A:List DArc),(C:List DCar),(Q:List DReq),(P:List DPair),(S:DShift)⟩,(f:Int),(t:Int),⟨(e:Int),(l:Int)⟩,_⟩:=x
 obtain ⟨hw,⟨⟨h1,h2⟩,h3,h4⟩,h5⟩:=hx
 replace hw:rightP (N,A,C,Q,P,S)=true:=hw
 replace h1:0≤e:=h1
 replace h2:e≤1048576:=h2
 replace h3:0≤l:=h3
 replace h4:l≤1048576:=h4
 replace h5:e≤l:=h5
 have hn:=rightR_n (rightP_iff.1 hw).1
 dsimp only at hn
 by_cases hft:f=t
 ·subst hft
  dsimp only [entLg20,x46];simp only [↓hcsLg2,entEarly,entWay,entBnd,go_sem,Nat.reduceAdd,Nat.reduceSub,Nat.reduceMul,Nat.reduceLT,Nat.reduceLeDiff,Nat.reduceEqDiff,Nat.reduceBEq,Nat.reduceBNe,List.reduceReplicate,reduceIte,reduceCtorEq,↓reduceIte]
  try simp only [td,reduceCtorEq]
  unfold legF
  rw [if_pos rfl]
 dsimp only [entLg20,x46];simp only [↓hcsLg2,entEarly,entWay,entBnd,hft,go_sem,Nat.reduceAdd,Nat.reduceSub,Nat.reduceMul,Nat.reduceLT,Nat.reduceLeDiff,Nat.reduceEqDiff,Nat.reduceBEq,Nat.reduceBNe,List.reduceReplicate,reduceIte,reduceCtorEq,↓reduceIte]
 try simp only [hft,td,reduceCtorEq]
 refine ⟨by have:=earlyLen (rightP_iff.1 hw).1 f e true;dsimp only at this;omega,?_⟩
 have hlf:legF (N,A,C,Q,P,S) f t (e,l)=((legWay (N,A,C,Q,P,S) f t (e,l)).foldl (legStep A e l) (0,0),decide (legWay (N,A,C,Q,P,S) f t (e,l)≠[])):=by
  unfold legF
  rw [if_neg hft]
 have hbd:=leg_bd hw f t (e,l)
 have hin:∀ i ∈ legWay (N,A,C,Q,P,S) f t (e,l),0≤i∧i < A.length:=fun i hi=>wayF_in i hi
 dsimp only at hbd
 have hWd:wayF (earlyF N A f e true).1 A t=legWay (N,A,C,Q,P,S) f t (e,l):=rfl
 rw [hWd]
 generalize hWW:legWay (N,A,C,Q,P,S) f t (e,l)=W at hlf hbd hin
 have hwl:W.length≤2000:=by rw [← hWW];exact legWay_len hw f t (e,l)
 refine XW_for 1000 x46_0d [0,1,2] Nat (fun j=>[(39,.val (.int .i64) (j:Int))]) (fun j=>[(4,.box 72 [.val (.int .i64) ((W.take j).foldl (legStep A e l) (0,0)).1,.val (.int .i64) ((W.take j).foldl (legStep A e l) (0,0)).2])]) (fun j=>j≤W.length) (fun j=>W.length - j) 0 ?_ ?_ ?_
 ·dsimp only [x46_0d]
  simp only [go_sem,Nat.reduceAdd,Nat.reduceSub,Nat.reduceMul,Nat.reduceLT,Nat.reduceLeDiff,Nat.reduceEqDiff,Nat.reduceBEq,Nat.reduceBNe,List.reduceReplicate,reduceIte,reduceCtorEq,↓reduceIte]
  exact ⟨rfl,rfl,rfl⟩
 ·exact Nat.zero_le _
 intro j hj
 by_cases hj':j < W.length
 ·have w2:IntKind.i64.wrap ((j:Int)+1)=((j+1:Nat):Int):=i64_in _ (by omega)
  have hmem:=getD_mem2 (d:=(0:Int)) hj'
  have hk:=hin _ hmem
  have hts:W.take (j+1)=W.take j ++ [W.getD j 0]:=by
   rw [List.take_succ_eq_append_getElem hj']
   simp [List.getD,hj']
  have hb:=hbd j
  have hb2:=hbd (j+1)
  rw [hts,List.foldl_append] at hb2
  generalize hS:W.getD j 0=k at hmem hk hts hb2
  generalize hO:(W.take j).foldl (legStep A e l) (0,0)=out at hb hb2
  obtain ⟨k,rfl⟩:∃ z:Nat,k=z:=⟨k.toNat,by omega⟩
  have hka:k < A.length:=by omega
  have hr:=(hn.2.2.2 _ (getD_mem2 (d:=((0,0,[],[]):DArc)) hka)).1
  have hst:legStep A e l out (k:Int)=(out.1+(bndF (A.getD k (0,0,[],[])) (e+out.1) (l+out.2)).1,out.2+(bndF (A.getD k (0,0,[],[])) (e+out.1) (l+out.2)).2):=rfl
  simp only [List.foldl_cons,List.foldl_nil,hst] at hb2
  obtain ⟨o1,o2⟩:=out
  dsimp only at hb hb2 hst
  have w3:IntKind.i64.wrap (e+o1)=e+o1:=i64_in _ (by omega)
  have w4:IntKind.i64.wrap (l+o2)=l+o2:=i64_in _ (by omega)
  generalize hB:bndF (A.getD k (0,0,[],[])) (e+o1) (l+o2)=bb at hb2 hst
  have hbl:=low_bd (show (toArc (A.getD k (0,0,[],[]))).right from of_decide_eq_true hr) ((e+o1) / 60).toNat (hoursN (e+o1) (l+o2))
  have w5:IntKind.i64.wrap (o1+bb.1)=o1+bb.1:=i64_in _ (by
   rw [← hB]
   unfold bndF
   dsimp only at hbl ⊢
   omega)
  have w6:IntKind.i64.wrap (o2+bb.2)=o2+bb.2:=i64_in _ (by
   rw [← hB]
   unfold bndF
   dsimp only at hbl ⊢
   omega)
  dsimp only [x46_0,x46_0d]
  simp only [↓hcsLg2,entEarly,entWay,entBnd,hj',hS,hO,hka,hr,w2,w3,w4,hB,w5,w6,Int.toNat_natCast,go_sem,Nat.reduceAdd,Nat.reduceSub,Nat.reduceMul,Nat.reduceLT,Nat.reduceLeDiff,Nat.reduceEqDiff,Nat.reduceBEq,Nat.reduceBNe,List.reduceReplicate,reduceIte,reduceCtorEq,↓reduceIte]
  try simp only [hj',hS,hO,hka,hr,w2,w3,w4,hB,w5,w6,Int.toNat_natCast,td,reduceCtorEq]
  refine ⟨⟨⟨(by omega:(0:Int)≤e+o1),(by omega:e+o1≤(100000000:Int))⟩,(by omega:(0:Int)≤l+o2),(by omega:l+o2≤(100000000:Int))⟩,j+1,by omega,hj',rfl,?_⟩
  rw [hts,List.foldl_append,hO]
  exact ⟨(congrArg Prod.fst hst).symm,(congrArg Prod.snd hst).symm⟩
 ·obtain rfl:j=W.length:=by omega
  dsimp only [x46_0,x46_0d]
  simp only [↓hcsLg2,entEarly,entWay,entBnd,hj',go_sem,Nat.reduceAdd,Nat.reduceSub,Nat.reduceMul,Nat.reduceLT,Nat.reduceLeDiff,Nat.reduceEqDiff,Nat.reduceBEq,Nat.reduceBNe,List.reduceReplicate,reduceIte,reduceCtorEq,↓reduceIte]
  try simp only [hj',td,reduceCtorEq]
  rw [hlf]
  try rw [List.take_length]
  have:decide (0 < (W.length:Int))=decide (W≠[]):=by
   rw [Bool.eq_iff_iff]
   simp [List.length_pos_iff]
  rw [this]
def csLeg:List Ent:=[entPlR,entPin,entLg20] theorem hcsLeg (f:FuncId):findEnt csLeg f=findEnt [entPlR,entPin,entLg20] f:=rfl
set_option maxHeartbeats 4000000 in
theorem conLeg:Con Tryz.prog entLeg:=by
 refine con_is (C:=csLeg) x23 (by kernel_rfl) (by simp [csLeg,conPlR,conPin,conLg20]) fun x hx hf=>?_
 obtain ⟨⟨(N:Int),(A:List DArc),(C:List DCar),(Q:List DReq),(P:List DPair),(S:DShift)⟩,(f:Int),(t:Int),⟨(e:Int),(l:Int)⟩,_⟩:=x
 have hA2:∀ m a b:Int,allIn m [a,b]=true ↔ (0≤a∧a≤m)∧0≤b∧b≤m:=fun m a b=>by unfold allIn;simp
 have hno:¬ (rightP (N,A,C,Q,P,S)=true∧((0≤f∧f < N)∧0≤t∧t < N)∧((0≤e∧e≤1048576)∧0≤l∧l≤1048576)∧e≤l)→LegF (N,A,C,Q,P,S) f t (e,l)=((0,0),false):=fun h=>by
  unfold LegF
  exact if_neg h
 have hwr:rightP (N,A,C,Q,P,S)=true→IntKind.i64.wrap (N - 1)=N - 1:=fun hw=>by
  have hn:=rightR_n (rightP_iff.1 hw).1
  dsimp only at hn
  exact i64_in _ (by omega)
 by_cases hgo:(rightP (N,A,C,Q,P,S)=true∧((0≤f∧f < N)∧0≤t∧t < N)∧((0≤e∧e≤1048576)∧0≤l∧l≤1048576)∧e≤l)
 ·have hyes:LegF (N,A,C,Q,P,S) f t (e,l)=legF (N,A,C,Q,P,S) f t (e,l):=if_pos hgo
  obtain ⟨hw,⟨h1,h2⟩,⟨h3,h4⟩,h5⟩:=hgo
  have w:=hwr hw
  have a1:allIn (IntKind.i64.wrap (N - 1)) [f,t]=true:=by rw [w,hA2];omega
  have a2:allIn 1048576 [e,l]=true:=(hA2 _ _ _).2 ⟨h3,h4⟩
  have a3:¬ e > l:=by omega
  have a3':¬ l < e:=by omega
  dsimp only [entLeg,x23];simp only [↓hcsLeg,entPlR,entPin,entLg20,undef,hw,a1,a2,a3,a3',hyes,go_sem,Nat.reduceAdd,Nat.reduceSub,Nat.reduceMul,Nat.reduceLT,Nat.reduceLeDiff,Nat.reduceEqDiff,Nat.reduceBEq,Nat.reduceBNe,List.reduceReplicate,reduceIte,reduceCtorEq,↓reduceIte]
  try simp only [hw,hyes,td,reduceCtorEq]
  exact ⟨⟨h3,h4⟩,h5⟩
 ·have hz:=hno hgo
  cases hw:rightP (N,A,C,Q,P,S) <;> cases h1:allIn (IntKind.i64.wrap (N - 1)) [f,t] <;> cases h2:allIn 1048576 [e,l] <;> by_cases h3:e > l <;>
  first
  | (
    have h3':=h3
    rw [gt_iff_lt] at h3'
    dsimp only [entLeg,x23];simp only [↓hcsLeg,entPlR,entPin,entLg20,undef,hw,h1,h2,h3,h3',hz,go_sem,Nat.reduceAdd,Nat.reduceSub,Nat.reduceMul,Nat.reduceLT,Nat.reduceLeDiff,Nat.reduceEqDiff,Nat.reduceBEq,Nat.reduceBNe,List.reduceReplicate,reduceIte,reduceCtorEq,↓reduceIte]
    try simp only [hz,td,reduceCtorEq]
    done)
  | (
    exfalso
    have w:=hwr hw
    rw [w,hA2] at h1
    rw [hA2] at h2
    exact hgo ⟨hw,⟨⟨h1.1.1,by omega⟩,h1.2.1,by omega⟩,h2,by omega⟩)
end T
end Go.Proofs.YtecdcopihghnaaaGreat
end
section
namespace Go.Proofs.YtecdcopihghnaaaGreat
set_option linter.unusedVariables false
set_option linter.unusedSimpArgs false
open Go.RowKit Go.IntWalk
namespace T
theorem at_next {ss:List DStop} {x:DStop} {j:Nat} (hj:j < ss.length) (hn:x ∉ ss.take j) (h:ss.getD j dStop≠x):x ∉ ss.take (j+1):=by
 rw [take_next hj,List.mem_append,List.mem_singleton]
 exact fun q=>q.elim hn fun e=>h e.symm
theorem at_end {ss:List DStop} {x:DStop} {j:Nat} (hj:ss.length≤j) (hn:x ∉ ss.take j):x ∉ ss:=by rwa [List.take_of_length_le hj] at hn
def entPlc:Ent:=⟨178,.cons (.int .i64) .nil,.bool,false,none,fun _=>True,fun x=>place1 x.1⟩
def csPlc:List Ent:=[] theorem hcsPlc (f:FuncId):findEnt csPlc f=findEnt [] f:=rfl
theorem conPlc:Con Tryz.prog entPlc:=by
 refine con_is (C:=csPlc) x178 (by kernel_rfl) (by simp [csPlc]) fun x hx hf=>?_
 obtain ⟨(n:Int),_⟩:=x
 dsimp only [entPlc,x178];simp only [↓hcsPlc,go_sem,Nat.reduceAdd,Nat.reduceSub,Nat.reduceMul,Nat.reduceLT,Nat.reduceLeDiff,Nat.reduceEqDiff,Nat.reduceBEq,Nat.reduceBNe,List.reduceReplicate,reduceIte,reduceCtorEq,↓reduceIte];try simp only [td,reduceCtorEq]
 simp [place1]
def entPlaces:Ent:=⟨141,.cons (.st (.cons (.int .i64) (.cons (.int .i64) (.int .i64)))) .nil,.bool,false,none,fun _=>True,fun x=>placesB x.1⟩
def csPls:List Ent:=[entPlc] theorem hcsPls (f:FuncId):findEnt csPls f=findEnt [entPlc] f:=rfl
theorem conPlaces:Con Tryz.prog entPlaces:=by
 refine con_is (C:=csPls) x141 (by kernel_rfl) (by simp [csPls,conPlc]) fun x hx hf=>?_
 obtain ⟨⟨(a:Int),(b:Int),(c:Int)⟩,_⟩:=x
 dsimp only [entPlaces,x141];simp only [↓hcsPls,entPlc,go_sem,Nat.reduceAdd,Nat.reduceSub,Nat.reduceMul,Nat.reduceLT,Nat.reduceLeDiff,Nat.reduceEqDiff,Nat.reduceBEq,Nat.reduceBNe,List.reduceReplicate,reduceIte,reduceCtorEq,↓reduceIte];try simp only [td,reduceCtorEq]
 simp [placesB,Bool.and_assoc]
def entOf:Ent:=⟨154,.cons (.st (.cons (.int .i64) (.cons (.int .i64) (.cons (.int .i64) (.cons (.int .i64) (.cons (.int .i64) (.cons (.int .i64) (.cons (.int .i64) (.cons (.int .i64) (.cons (.int .i64) (.int .i64))))))))))) .nil,(.st (.cons (.int .i64) (.cons (.int .i64) (.int .i64)))),false,none,fun _=>True,fun x=>reqLoad x.1⟩
def csOf:List Ent:=[] theorem hcsOf (f:FuncId):findEnt csOf f=findEnt [] f:=rfl
theorem conOf:Con Tryz.prog entOf:=by
 refine con_is (C:=csOf) x154 (by kernel_rfl) (by simp [csOf]) fun x hx hf=>?_
 obtain ⟨⟨(a:Int),(b:Int),(c:Int),(d:Int),(e:Int),(f:Int),(g:Int),(h:Int),(i:Int),(j:Int)⟩,_⟩:=x
 dsimp only [entOf,x154];simp only [↓hcsOf,go_sem,Nat.reduceAdd,Nat.reduceSub,Nat.reduceMul,Nat.reduceLT,Nat.reduceLeDiff,Nat.reduceEqDiff,Nat.reduceBEq,Nat.reduceBNe,List.reduceReplicate,reduceIte,reduceCtorEq,↓reduceIte];try simp only [td,reduceCtorEq]
 rfl
def entIdxS:Ent:=⟨181,.cons (.sl (.st (.cons (.int .i64) .bool))) (.cons (.st (.cons (.int .i64) .bool)) .nil),(.int .i64),false,none,fun _=>True,fun x=>atF x.2.1 x.1⟩
def csIxs:List Ent:=[] theorem hcsIxs (f:FuncId):findEnt csIxs f=findEnt [] f:=rfl
theorem conIdxS:Con Tryz.prog entIdxS:=by
 refine con_is (C:=csIxs) x181 (by kernel_rfl) (by simp [csIxs]) fun x hx hf=>?_
 obtain ⟨(ss:List DStop),⟨(k:Int),(p:Bool)⟩,_⟩:=x
 have hl:ss.length≤9223372036854775807:=hf.1.1
 dsimp only [entIdxS,x181];simp only [↓hcsIxs,go_sem,Nat.reduceAdd,Nat.reduceSub,Nat.reduceMul,Nat.reduceLT,Nat.reduceLeDiff,Nat.reduceEqDiff,Nat.reduceBEq,Nat.reduceBNe,List.reduceReplicate,reduceIte,reduceCtorEq,↓reduceIte];try simp only [td,reduceCtorEq]
 refine XW_for 1000 x181_0d [0] Nat (fun j=>[(8,.val (.int .i64) (j:Int))]) (fun _=>[]) (fun j=>j≤ss.length∧(k,p) ∉ ss.take j) (fun j=>ss.length - j) 0 ?_ ?_ ?_
 ·dsimp only [x181_0d]
  simp only [go_sem,Nat.reduceAdd,Nat.reduceSub,Nat.reduceMul,Nat.reduceLT,Nat.reduceLeDiff,Nat.reduceEqDiff,Nat.reduceBEq,Nat.reduceBNe,List.reduceReplicate,reduceIte,reduceCtorEq,↓reduceIte]
  try rfl
 ·exact ⟨Nat.zero_le _,by simp⟩
 ·rintro j ⟨hj,hn⟩
  dsimp only [x181_0,x181_0d]
  simp only [↓hcsIxs,go_sem,Nat.reduceAdd,Nat.reduceSub,Nat.reduceMul,Nat.reduceLT,Nat.reduceLeDiff,Nat.reduceEqDiff,Nat.reduceBEq,Nat.reduceBNe,List.reduceReplicate,reduceIte,reduceCtorEq,↓reduceIte]
  try simp only [td,reduceCtorEq]
  have w2:j < ss.length→IntKind.i64.wrap ((j:Int)+1)=((j+1:Nat):Int):=fun h=>i64_in _ (by omega)
  refine ⟨fun hj'=>⟨hj',fun e=>(atF_at (x:=(k,p)) hj' (Prod.ext e.1.symm e.2.symm) hn).symm,fun e=>⟨j+1,by omega,⟨hj',at_next hj' hn fun q=>e (congrArg Prod.fst q).symm (congrArg Prod.snd q).symm⟩,w2 hj'⟩⟩,fun hj'=>(atF_none (at_end (by omega) hn)).symm⟩
end T
end Go.Proofs.YtecdcopihghnaaaGreat
end
section
namespace Go.Proofs.YtecdcopihghnaaaGreat
set_option linter.unusedVariables false
set_option linter.unusedSimpArgs false
open Go.RowKit Go.IntWalk
namespace T
theorem mget_keys (ks:List Int) (k:Int):mget false (ks.map fun k=>(k,true)) k=decide (k ∈ ks):=by
 induction ks with
 | nil=>rfl
 | cons p r ih =>
  rw [List.map_cons,mget]
  dsimp only
  by_cases c:p=k
  ·rw [if_pos c];exact (decide_eq_true (by simp [c])).symm
  ·rw [if_neg c,ih];exact decide_eq_decide.2 (by simp [Ne.symm c])
theorem mset_keys (ks:List Int) (k:Int):mset (ks.map fun k=>(k,true)) k true=(kset ks k).map fun k=>(k,true):=by
 induction ks with
 | nil=>rfl
 | cons p r ih =>
  rw [List.map_cons,mset,kset]
  dsimp only
  by_cases c:p=k
  ·rw [if_pos c,if_pos c];rfl
  ·rw [if_neg c,if_neg c,ih];rfl
theorem mdel_keys (ks:List Int) (k:Int):mdel (ks.map fun k=>(k,true)) k=(kdel ks k).map fun k=>(k,true):=by
 induction ks with
 | nil=>rfl
 | cons p r ih =>
  rw [List.map_cons,mdel,kdel]
  dsimp only
  by_cases c:p=k
  ·rw [if_pos c,if_pos c]
  ·rw [if_neg c,if_neg c,ih];rfl
theorem drop_next {ss:List DStop} {j:Nat} (h:j < ss.length):ss.drop j=ss.getD j dStop :: ss.drop (j+1):=by rw [getD_get h];exact List.drop_eq_getElem_cons h
def entCtS:Ent:=⟨155,.cons (.sl (.st (.cons (.int .i64) .bool))) (.cons (.st (.cons (.int .i64) .bool)) .nil),.bool,false,none,fun _=>True,fun x=>decide (x.2.1 ∈ (x.1:List DStop))⟩
def csCts:List Ent:=[entIdxS] theorem hcsCts (f:FuncId):findEnt csCts f=findEnt [entIdxS] f:=rfl
theorem conCtS:Con Tryz.prog entCtS:=by
 refine con_is (C:=csCts) x155 (by kernel_rfl) (by simp [csCts,conIdxS]) fun x hx hf=>?_
 obtain ⟨(ss:List DStop),⟨(k:Int),(p:Bool)⟩,_⟩:=x
 dsimp only [entCtS,x155];simp only [↓hcsCts,entIdxS,go_sem,Nat.reduceAdd,Nat.reduceSub,Nat.reduceMul,Nat.reduceLT,Nat.reduceLeDiff,Nat.reduceEqDiff,Nat.reduceBEq,Nat.reduceBNe,List.reduceReplicate,reduceIte,reduceCtorEq,↓reduceIte];try simp only [td,reduceCtorEq]
 exact decide_eq_decide.2 at_mem
def entRightS:Ent:=⟨100,.cons (.sl (.st (.cons (.int .i64) .bool))) (.cons (.sl (.st (.cons (.int .i64) (.cons (.int .i64) (.cons (.int .i64) (.cons (.int .i64) (.cons (.int .i64) (.cons (.int .i64) (.cons (.int .i64) (.cons (.int .i64) (.cons (.int .i64) (.int .i64)))))))))))) .nil),.bool,false,none,fun _=>True,fun x=>rightS x.1 x.2.1⟩
def csRs:List Ent:=[entOf,entPlaces,entCtS] theorem hcsRs (f:FuncId):findEnt csRs f=findEnt [entOf,entPlaces,entCtS] f:=rfl
theorem conRightS:Con Tryz.prog entRightS:=by
 refine con_is (C:=csRs) x100 (by kernel_rfl) (by simp [csRs,conOf,conPlaces,conCtS]) fun x hx hf=>?_
 obtain ⟨(ss:List DStop),(rs:List DReq),_⟩:=x
 have hl:ss.length≤9223372036854775807:=hf.1.1
 dsimp only [entRightS,x100];simp only [↓hcsRs,entOf,entPlaces,entCtS,go_sem,Nat.reduceAdd,Nat.reduceSub,Nat.reduceMul,Nat.reduceLT,Nat.reduceLeDiff,Nat.reduceEqDiff,Nat.reduceBEq,Nat.reduceBNe,List.reduceReplicate,reduceIte,reduceCtorEq,↓reduceIte];try simp only [td,reduceCtorEq]
 refine ⟨fun h=>?_,fun h=>?_⟩
 ·refine (decide_eq_false fun q=>?_).symm
  have:=q.1
  omega
 refine XW_for 1000 x100_0d [] (Nat × List Int) (fun s=>[(6,.val (.int .i64) ((s.1:Int) - 1))]) (fun s=>[(9,.mp .i64 .bool (s.2.map fun k=>(k,true)))])
   (fun s=>s.1≤ss.length∧(∀ k,k ∈ s.2 ↔ (k,false) ∈ ss.drop s.1)∧∀ i,s.1≤i→i < ss.length→OkAt ss rs i) (fun s=>s.1) (ss.length,[]) ?_ ?_ ?_
 ·dsimp only [x100_0d]
  simp only [go_sem,Nat.reduceAdd,Nat.reduceSub,Nat.reduceMul,Nat.reduceLT,Nat.reduceLeDiff,Nat.reduceEqDiff,Nat.reduceBEq,Nat.reduceBNe,List.reduceReplicate,reduceIte,reduceCtorEq,↓reduceIte]
  exact i64_in _ (by omega)
 ·exact ⟨Nat.le_refl _,fun k=>by simp,fun i (hi:ss.length≤i) hl=>by omega⟩
 ·rintro ⟨j,ks⟩ ⟨hj,hks,hok⟩
  dsimp only [x100_0,x100_0d]
  simp only [↓hcsRs,entOf,entPlaces,entCtS,go_sem,Nat.reduceAdd,Nat.reduceSub,Nat.reduceMul,Nat.reduceLT,Nat.reduceLeDiff,Nat.reduceEqDiff,Nat.reduceBEq,Nat.reduceBNe,List.reduceReplicate,reduceIte,reduceCtorEq,↓reduceIte]
  try simp only [td,reduceCtorEq]
  dsimp only at hj hks hok
  by_cases hj0:j=0
  ·subst hj0
   refine ⟨fun q=>by omega,fun _=>(decide_eq_true ⟨by omega,fun i hi=>hok i (by omega) hi⟩).symm⟩
  obtain ⟨j,rfl⟩:∃ m,j=m+1:=⟨j - 1,by omega⟩
  have hj':j < ss.length:=by omega
  have e1:((j+1:Nat):Int) - 1=(j:Int):=by omega
  have w2:IntKind.i64.wrap ((j:Int) - 1)=(j:Int) - 1:=i64_in _ (by omega)
  have hd:=drop_next hj'
  have no:¬ OkAt ss rs j→false=rightS ss rs:=fun q=>(decide_eq_false fun z=>q (z.2 j hj')).symm
  have yes:OkAt ss rs j→∀ i,j≤i→i < ss.length→OkAt ss rs i:=fun q i hi hl=>by
   by_cases c:i=j
   ·rw [c];exact q
   ·exact hok i (by omega) hl
  have hR:OkAt ss rs j ↔ (0≤(ss.getD j dStop).1∧(ss.getD j dStop).1 < rs.length)∧placesB (reqLoad (rs.getD (ss.getD j dStop).1.toNat dReq))=true∧ss.getD j dStop ∉ ss.take j∧((ss.getD j dStop).2=true→((ss.getD j dStop).1,false) ∈ ss.drop (j+1)):=Iff.rfl
  simp only [e1,w2,Int.toNat_natCast,mget_keys,mset_keys]
  dsimp only [dStop] at hR hd
  have he:((ss.getD j (0,false)).1,(ss.getD j (0,false)).2)=ss.getD j (0,false):=rfl
  rw [he]
  generalize ss.getD j (0,false)=s at hR hd he ⊢
  obtain ⟨k,p⟩:=s
  dsimp only at hR hd ⊢
  generalize placesB (reqLoad (rs.getD k.toNat dReq))=pb at hR ⊢
  refine ⟨fun _=>⟨by omega,⟨fun q=>⟨q,by omega⟩,fun q=>⟨q,fun z=>⟨q,z⟩⟩⟩,fun q=>no fun z=>?_,fun q=>⟨fun z=>?_,fun z=>?_⟩⟩,fun q=>by omega⟩
  ·have z:=hR.1 z
   rcases q with ((q | q) | q) | q
   ·omega
   ·rw [q] at z;cases z.2.1
   ·exact z.2.2.1 q
   ·have:=(hks k).2 (z.2.2.2 q.1)
    have q2:=q.2
    simp only [decide_eq_false_iff_not] at q2
    exact q2 this
  ·refine ⟨(j,kset ks k),Nat.lt_succ_self _,⟨by dsimp only;omega,fun x=>?_,yes (hR.2 ⟨q.1.1.1,q.1.1.2,q.1.2,fun y=>by rw [z] at y;cases y⟩)⟩,rfl,rfl⟩
   dsimp only
   rw [mem_kset,hks,hd,List.mem_cons,z,Prod.mk.injEq,or_comm]
   simp
  ·refine ⟨(j,ks),Nat.lt_succ_self _,⟨by dsimp only;omega,fun x=>?_,yes (hR.2 ⟨q.1.1.1,q.1.1.2,q.1.2,fun y=>?_⟩)⟩,rfl,rfl⟩
   ·dsimp only
    rw [hks,hd,List.mem_cons,z,Prod.mk.injEq]
    simp
   ·have:=q.2 z
    rw [decide_eq_true_iff] at this
    exact (hks k).1 this
end T
end Go.Proofs.YtecdcopihghnaaaGreat
end
section
namespace Go.Proofs.YtecdcopihghnaaaGreat
set_option linter.unusedVariables false
set_option linter.unusedSimpArgs false
open Go.RowKit Go.IntWalk
namespace T
def entAsk:Ent:=⟨42,.cons (.st (.cons (.int .i64) (.cons (.sl (.st (.cons (.int .i64) (.cons (.int .i64) (.cons (.sl (.int .i64)) (.sl (.int .i64))))))) (.cons (.sl (.st (.cons (.int .i64) (.cons (.int .i64) (.cons (.int .i64) (.cons (.int .i64) (.cons (.int .i64) (.cons (.int .i64) (.cons (.int .i64) (.cons (.int .i64) (.int .i64))))))))))) (.cons (.sl (.st (.cons (.int .i64) (.cons (.int .i64) (.cons (.int .i64) (.cons (.int .i64) (.cons (.int .i64) (.cons (.int .i64) (.cons (.int .i64) (.cons (.int .i64) (.cons (.int .i64) (.int .i64)))))))))))) (.cons (.sl (.st (.cons (.int .i64) (.cons (.int .i64) .bool)))) (.st (.cons (.int .i64) (.cons (.int .i64) (.int .i64)))))))))) (.cons (.int .i64) (.cons (.sl (.st (.cons (.int .i64) .bool))) .nil)),.bool,false,none,fun _=>True,fun x=>asksF x.1 x.2.1 x.2.2.1⟩
def csAs:List Ent:=[entPlR,entPin,entRightS] theorem hcsAs (f:FuncId):findEnt csAs f=findEnt [entPlR,entPin,entRightS] f:=rfl
set_option maxHeartbeats 4000000 in
theorem conAsk:Con Tryz.prog entAsk:=by
 refine con_is (C:=csAs) x42 (by kernel_rfl) (by simp [csAs,conPlR,conPin,conRightS]) fun x hx hf=>?_
 obtain ⟨⟨(N:Int),(A:List DArc),(C:List DCar),(Q:List DReq),(P:List DPair),(S1:Int),(S2:Int),(S3:Int)⟩,(c:Int),(ss:List DStop),_⟩:=x
 cases hw:rightP (N,A,C,Q,P,S1,S2,S3) with
 | false =>
  have hz:asksF (N,A,C,Q,P,S1,S2,S3) c ss=false:=by unfold asksF;rw [hw];rfl
  dsimp only [entAsk,x42];simp only [↓hcsAs,entPlR,entPin,entRightS,undef,hw,hz,go_sem,Nat.reduceAdd,Nat.reduceSub,Nat.reduceMul,Nat.reduceLT,Nat.reduceLeDiff,Nat.reduceEqDiff,Nat.reduceBEq,Nat.reduceBNe,List.reduceReplicate,reduceIte,reduceCtorEq,↓reduceIte]
  try simp only [hw,hz,td,reduceCtorEq]
 | true =>
  have hcl:C.length≤600:=(rightP_iff.1 hw).2.1.1
  have w:IntKind.i64.wrap ((C.length:Int) - 1)=(C.length:Int) - 1:=i64_in _ (by omega)
  have hz:asksF (N,A,C,Q,P,S1,S2,S3) c ss=(allIn ((C.length:Int) - 1) [c] && rightS ss Q):=by
   unfold asksF allIn
   rw [hw,Bool.true_and]
   congr 1
   rw [Bool.eq_iff_iff]
   simp
   try omega
  cases h1:allIn ((C.length:Int) - 1) [c] with
  | false =>
   rw [h1] at hz
   dsimp only [entAsk,x42];simp only [↓hcsAs,entPlR,entPin,entRightS,undef,hw,hz,w,h1,go_sem,Nat.reduceAdd,Nat.reduceSub,Nat.reduceMul,Nat.reduceLT,Nat.reduceLeDiff,Nat.reduceEqDiff,Nat.reduceBEq,Nat.reduceBNe,List.reduceReplicate,reduceIte,reduceCtorEq,↓reduceIte]
   try simp only [hw,hz,w,h1,td,reduceCtorEq]
  | true =>
   rw [h1] at hz
   dsimp only [entAsk,x42];simp only [↓hcsAs,entPlR,entPin,entRightS,undef,hw,hz,w,h1,go_sem,Nat.reduceAdd,Nat.reduceSub,Nat.reduceMul,Nat.reduceLT,Nat.reduceLeDiff,Nat.reduceEqDiff,Nat.reduceBEq,Nat.reduceBNe,List.reduceReplicate,reduceIte,reduceCtorEq,↓reduceIte]
   try simp only [hw,hz,w,h1,td,reduceCtorEq]
def entCh1:Ent:=⟨44,.cons (.st (.cons (.int .i64) (.cons (.int .i64) (.int .i64)))) (.cons (.st (.cons (.int .i64) (.cons (.int .i64) (.int .i64)))) .nil),(.int .i64),false,none,fun _=>True,fun x=>IntKind.i64.wrap ((x.1:DRide).1 - (x.2.1:DRide).1)⟩
def csCh1:List Ent:=[] theorem hcsCh1 (f:FuncId):findEnt csCh1 f=findEnt [] f:=rfl
theorem conCh1:Con Tryz.prog entCh1:=by
 refine con_is (C:=csCh1) x44 (by kernel_rfl) (by simp [csCh1]) fun x hx hf=>?_
 obtain ⟨⟨(a:Int),(b:Int),(d:Int)⟩,⟨(a':Int),(b':Int),(d':Int)⟩,_⟩:=x
 dsimp only [entCh1,x44];simp only [↓hcsCh1,go_sem,Nat.reduceAdd,Nat.reduceSub,Nat.reduceMul,Nat.reduceLT,Nat.reduceLeDiff,Nat.reduceEqDiff,Nat.reduceBEq,Nat.reduceBNe,List.reduceReplicate,reduceIte,reduceCtorEq,↓reduceIte];try simp only [td,reduceCtorEq]
def entCh2:Ent:=⟨45,.cons (.int .i64) (.cons (.ptr (.st (.cons (.int .i64) (.cons (.int .i64) (.cons (.int .i64) (.cons (.int .i64) (.cons (.int .i64) (.cons (.int .i64) (.cons (.int .i64) (.cons (.int .i64) (.int .i64))))))))))) (.cons (.ptr (.st (.cons (.int .i64) (.cons (.sl (.st (.cons (.int .i64) (.cons (.int .i64) (.cons (.sl (.int .i64)) (.sl (.int .i64))))))) (.cons (.sl (.st (.cons (.int .i64) (.cons (.int .i64) (.cons (.int .i64) (.cons (.int .i64) (.cons (.int .i64) (.cons (.int .i64) (.cons (.int .i64) (.cons (.int .i64) (.int .i64))))))))))) (.cons (.sl (.st (.cons (.int .i64) (.cons (.int .i64) (.cons (.int .i64) (.cons (.int .i64) (.cons (.int .i64) (.cons (.int .i64) (.cons (.int .i64) (.cons (.int .i64) (.cons (.int .i64) (.int .i64)))))))))))) (.cons (.sl (.st (.cons (.int .i64) (.cons (.int .i64) .bool)))) (.st (.cons (.int .i64) (.cons (.int .i64) (.int .i64))))))))))) (.cons (.ptr (.sl (.st (.cons (.int .i64) .bool)))) .nil))),(.int .i64),false,none,fun x=>(0≤(x.1:Int)∧(x.1:Int)≤(x.2.2.2.1:List DStop).length)∧RightS x.2.2.2.1 (x.2.2.1:DWorld).2.2.2.1,fun x=>if (x.1:Int)=0 then (x.2.1:DCar).2.1 else if ((x.2.2.2.1:List DStop).getD ((x.1:Int) - 1).toNat dStop).2=true then (reqAt x.2.2.1 ((x.2.2.2.1:List DStop).getD ((x.1:Int) - 1).toNat dStop).1).2.1 else (reqAt x.2.2.1 ((x.2.2.2.1:List DStop).getD ((x.1:Int) - 1).toNat dStop).1).2.2.1⟩
def csCh2:List Ent:=[] theorem hcsCh2 (f:FuncId):findEnt csCh2 f=findEnt [] f:=rfl
theorem conCh2:Con Tryz.prog entCh2:=by
 refine con_is (C:=csCh2) x45 (by kernel_rfl) (by simp [csCh2]) fun x hx hf=>?_
 obtain ⟨(k:Int),⟨(o:Int),(n:Int),(r:Int),(e:Int),(s:Int),(c:Int),(b:Int),(g:Int),(f:Int)⟩,⟨(N:Int),(A:List DArc),(C:List DCar),(Q:List DReq),(P:List DPair),(S1:Int),(S2:Int),(S3:Int)⟩,(ss:List DStop),_⟩:=x
 obtain ⟨⟨h1,h2⟩,h3⟩:=hx
 replace h1:0≤k:=h1
 replace h2:k≤(ss.length:Int):=h2
 replace h3:RightS ss Q:=h3
 by_cases hk:k=0
 ·subst hk
  dsimp only [entCh2,x45];simp only [↓hcsCh2,go_sem,Nat.reduceAdd,Nat.reduceSub,Nat.reduceMul,Nat.reduceLT,Nat.reduceLeDiff,Nat.reduceEqDiff,Nat.reduceBEq,Nat.reduceBNe,List.reduceReplicate,reduceIte,reduceCtorEq,↓reduceIte];try simp only [td,reduceCtorEq]
 obtain ⟨k,rfl⟩:∃ z:Nat,k=((z+1:Nat):Int):=⟨k.toNat - 1,by omega⟩
 have hkl:k < ss.length:=by omega
 have w:IntKind.i64.wrap (((k+1:Nat):Int) - 1)=(k:Int):=(i64_in _ (by have:=h3.1.1;omega)).trans (by omega)
 have w':(((k+1:Nat):Int) - 1).toNat=k:=by omega
 have hq:=(h3.2 k hkl).1
 generalize hS:ss.getD k dStop=st at hq
 have hS':ss.getD k (0,false)=st:=hS
 obtain ⟨r',p⟩:=st
 dsimp only at hq
 obtain ⟨r',rfl⟩:∃ z:Nat,r' = z:=⟨r'.toNat,by omega⟩
 have hql:r' < Q.length:=by omega
 dsimp only [entCh2,x45];simp only [↓hcsCh2,hk,w,w',hkl,hS',hql,Int.toNat_natCast,go_sem,Nat.reduceAdd,Nat.reduceSub,Nat.reduceMul,Nat.reduceLT,Nat.reduceLeDiff,Nat.reduceEqDiff,Nat.reduceBEq,Nat.reduceBNe,List.reduceReplicate,reduceIte,reduceCtorEq,↓reduceIte]
 try simp only [hk,w,w',hkl,hS',hql,Int.toNat_natCast,td,reduceCtorEq]
 exact ⟨fun h=>by rw [if_pos h];rfl,fun h=>by rw [if_neg (by rw [h];simp)];rfl⟩
end T
end Go.Proofs.YtecdcopihghnaaaGreat
end
section
namespace Go.Proofs.YtecdcopihghnaaaGreat
set_option linter.unusedVariables false
set_option linter.unusedSimpArgs false
open Go.RowKit Go.IntWalk
namespace T
theorem mget_mset' {α:Type} {z:α}:∀ {H:List (Int × α)} {i j:Int} {v:α},mget z (mset H i v) j=if i=j then v else mget z H j
 | [],i,j,v=>rfl
 | p :: r,i,j,v=>by
  unfold mset
  by_cases c:p.1=i
  ·rw [if_pos c]
   unfold mget
   by_cases c2:i=j
   ·rw [if_pos c2,if_pos c2]
   ·rw [if_neg c2,if_neg c2,if_neg (by rw [c];exact c2)]
  ·rw [if_neg c]
   unfold mget
   rw [mget_mset']
   by_cases c2:p.1=j
   ·rw [if_pos c2,if_pos c2,if_neg (by rw [← c2];exact fun e=>c e.symm)]
   ·rw [if_neg c2,if_neg c2]
theorem mhas_mset {α:Type}:∀ {H:List (Int × α)} {i j:Int} {v:α},mhas (mset H i v) j=if i=j then true else mhas H j
 | [],i,j,v=>rfl
 | p :: r,i,j,v=>by
  unfold mset
  by_cases c:p.1=i
  ·rw [if_pos c]
   unfold mhas
   by_cases c2:i=j
   ·rw [if_pos c2,if_pos c2]
   ·rw [if_neg c2,if_neg c2,if_neg (by rw [c];exact c2)]
  ·rw [if_neg c]
   unfold mhas
   rw [mhas_mset]
   by_cases c2:p.1=j
   ·rw [if_pos c2,if_pos c2,if_neg (by rw [← c2];exact fun e=>c e.symm)]
   ·rw [if_neg c2,if_neg c2]
def pickM (ss:List DStop) (j:Nat) (H:List (Int × Int)):Prop:=∀ r:Int,mhas H r=decide ((r,true) ∈ ss.take j)∧((r,true) ∈ ss.take j→mget 0 H r=atF (r,true) ss+1)
theorem pickM_pick {ss:List DStop} {rs:List DReq} (h:RightS ss rs) {j:Nat} (hj:j < ss.length) {H:List (Int × Int)} (hH:pickM ss j H) {r:Int} (e:ss.getD j dStop=(r,true)):pickM ss (j+1) (mset H r ((j+1:Nat):Int)):=by
 intro i
 rw [mhas_mset,mget_mset',take_next hj,e]
 have hat:=h.at_eq hj
 rw [e] at hat
 by_cases c:r=i
 ·subst c
  rw [if_pos rfl,if_pos rfl]
  refine ⟨(decide_eq_true (by simp)).symm,fun _=>?_⟩
  rw [hat];omega
 ·rw [if_neg c,if_neg c]
  have hm:(i,true) ∈ ss.take j ++ [(r,true)] ↔ (i,true) ∈ ss.take j:=by
   simp only [List.mem_append,List.mem_singleton,Prod.mk.injEq,and_true]
   exact ⟨fun h=>h.resolve_right fun h=>c h.symm,.inl⟩
  refine ⟨(hH i).1.trans (decide_eq_decide.2 hm.symm),fun h=>(hH i).2 (hm.1 h)⟩
theorem pickM_drop {ss:List DStop} {j:Nat} (hj:j < ss.length) {H:List (Int × Int)} (hH:pickM ss j H) {r:Int} (e:ss.getD j dStop=(r,false)):pickM ss (j+1) H:=by
 intro i
 rw [take_next hj,e]
 have hm:(i,true) ∈ ss.take j ++ [(r,false)] ↔ (i,true) ∈ ss.take j:=by simp
 exact ⟨(hH i).1.trans (decide_eq_decide.2 hm.symm),fun h=>(hH i).2 (hm.1 h)⟩
theorem range_map_s {α:Type} (f:Nat→α) (j:Nat):(List.range j).map f ++ [f j]=(List.range (j+1)).map f:=by
 rw [List.range_succ,List.map_append];rfl
theorem ridesP_no {w:DWorld} {ss:List DStop} {j:Nat} (h:dropB ss j=false):ridesP w ss j=ridesP w ss (j+1):=by
 unfold ridesP
 rw [List.range_succ,List.filter_append,List.filter_cons_of_neg (by rw [h];simp),List.filter_nil,List.append_nil]
theorem ridesP_yes {w:DWorld} {ss:List DStop} {j:Nat} (h:dropB ss j=true):ridesP w ss j ++ [rideP w ss j]=ridesP w ss (j+1):=by
 unfold ridesP
 rw [List.range_succ,List.filter_append,List.filter_cons_of_pos h,List.map_append];rfl
theorem ridesP_le (w:DWorld) (ss:List DStop) (j:Nat):(ridesP w ss j).length≤j:=by
 unfold ridesP
 rw [List.length_map]
 exact Nat.le_trans (List.length_filter_le _ _) (by rw [List.length_range];omega)
theorem badW_all {w:DWorld} {c:Int} {ss:List DStop} {j:Nat} (h:∀ k,k≤j→badW w c ss k=false) (h1:badW w c ss (j+1)=false):∀ k,k≤j+1→badW w c ss k=false:=fun k hk=>by
 rcases Nat.lt_or_ge k (j+1) with c | c
 ·exact h k (by omega)
 ·rw [show k=j+1 by omega];exact h1
theorem chain_bad {w:DWorld} {c:Int} {ss:List DStop} (ha:asksF w c ss=true) {j:Nat} (hj:j≤ss.length) (h:badW w c ss j=true):chainF w c ss=(([],[],[]),20):=by
 unfold chainF
 rw [if_neg (by rw [ha];simp),if_pos (List.any_eq_true.2 ⟨j,List.mem_range.2 (by omega),h⟩)];rfl
theorem rides_12 {w:DWorld} {ss:List DStop} (h:RightS ss w.2.2.2.1) (hn:ss.length≤24):(ridesP w ss ss.length).length≤12:=by
 have h1:=(rides_perm (w:=w) h).length_eq
 have h2:(ridesP w ss ss.length).length+(ridesR w ss ss.length).length≤ss.length:=by
  unfold ridesP ridesR
  rw [List.length_map,List.length_map]
  have:∀ l:List Nat,(l.filter (dropB ss)).length+(l.filter fun k=>(ss.getD k dStop).2).length≤l.length:=by
   intro l
   induction l with
   | nil=>exact Nat.le_refl _
   | cons k l ih =>
    rw [List.filter_cons,List.filter_cons,List.length_cons]
    cases hd:(ss.getD k dStop).2 with
    | true =>
     rw [if_neg (by unfold dropB;rw [hd];simp),if_pos rfl,List.length_cons];omega
    | false =>
     rw [if_neg (by simp:¬ false=true)]
     split
     ·rw [List.length_cons];omega
     ·omega
  have:=this (List.range ss.length)
  rwa [List.length_range] at this
 omega
theorem ridesR_rng (w:DWorld) (ss:List DStop) (j:Nat):∀ x ∈ ridesR w ss j,0≤x.1∧x.1≤j:=by
 intro x hx
 unfold ridesR at hx
 obtain ⟨k,hk,rfl⟩:=List.mem_map.1 hx
 have:=List.mem_range.1 (List.mem_filter.1 hk).1
 unfold rideR
 dsimp only
 omega
@[reducible] def dRd:DRide:=(0,0,0)
def swapR (L:List DRide) (j:Nat):List DRide:=(L.set j (L.getD (j - 1) dRd)).set (j - 1) (L.getD j dRd)
theorem swapR_perm {L:List DRide} {j:Nat} (hj:j < L.length):(swapR L j).Perm L:=by
 have e1:L.getD j dRd=L[j]:=by rw [List.getD_eq_getElem?_getD,List.getElem?_eq_getElem hj];rfl
 have e2:L.getD (j - 1) dRd=L[j - 1]:=by rw [List.getD_eq_getElem?_getD,List.getElem?_eq_getElem (by omega)];rfl
 unfold swapR
 rw [e1,e2]
 exact List.set_set_perm hj (by omega)
theorem swapR_at {L:List DRide} {j:Nat} (h0:0 < j) (hj:j < L.length) (k:Nat):(swapR L j).getD k dRd=if k=j then L.getD (j - 1) dRd else if k=j - 1 then L.getD j dRd else L.getD k dRd:=by
 unfold swapR
 simp only [List.getD_eq_getElem?_getD,List.getElem?_set]
 by_cases c1:k=j
 ·subst c1
  rw [if_neg (by omega),if_pos rfl,if_pos rfl,if_pos hj];rfl
 ·rw [if_neg c1]
  by_cases c2:k=j - 1
  ·subst c2
   rw [if_pos rfl,if_pos rfl,if_pos (by rw [List.length_set];omega)];rfl
  ·rw [if_neg (fun h=>c2 h.symm),if_neg (fun h=>c1 h.symm),if_neg c2]
def almost (L:List DRide) (i j:Nat):Prop:=∀ a b:Nat,a < b→b≤i→b≠j→(L.getD a dRd).1≤(L.getD b dRd).1
def sortedTo (L:List DRide) (i:Nat):Prop:=∀ a b:Nat,a < b→b < i→(L.getD a dRd).1≤(L.getD b dRd).1
theorem almost_start {L:List DRide} {i:Nat} (h:sortedTo L i):almost L i i:=fun a b h1 h2 h3=>h a b h1 (by omega)
theorem almost_step {L:List DRide} {i j:Nat} (h:almost L i j) (h0:0 < j) (hj:j < L.length) (hji:j≤i) (hc:(L.getD j dRd).1 < (L.getD (j - 1) dRd).1):almost (swapR L j) i (j - 1):=by
 intro a b h1 h2 h3
 rw [swapR_at h0 hj,swapR_at h0 hj]
 by_cases c1:b=j
 ·subst c1
  rw [if_pos rfl,if_neg (show ¬ a=b by omega)]
  by_cases c2:a=b - 1
  ·rw [if_pos c2];omega
  ·rw [if_neg c2];exact h a (b - 1) (by omega) (by omega) (by omega)
 ·rw [if_neg c1,if_neg h3]
  by_cases c2:a=j
  ·rw [if_pos c2];exact h (j - 1) b (by omega) h2 c1
  ·rw [if_neg c2]
   by_cases c3:a=j - 1
   ·rw [if_pos c3]
    exact h j b (by omega) h2 c1
   ·rw [if_neg c3];exact h a b h1 h2 c1
theorem almost_done {L:List DRide} {i j:Nat} (h:almost L i j) (hji:j≤i) (hc:j=0∨(L.getD (j - 1) dRd).1≤(L.getD j dRd).1):sortedTo L (i+1):=by
 intro a b h1 h2
 by_cases c:b=j
 ·subst c
  rcases hc with hc | hc
  ·omega
  ·by_cases c2:a=b - 1
   ·subst c2;exact hc
   ·exact Int.le_trans (h a (b - 1) (by omega) (by omega) (by omega)) hc
 ·exact h a b h1 (by omega) c
theorem sortedTo_pairwise {L:List DRide} {i:Nat} (h:sortedTo L i) (hi:L.length≤i):L.Pairwise fun x y=>x.1≤y.1:=by
 rw [List.pairwise_iff_getElem]
 intro a b ha hb hab
 have:=h a b hab (by omega)
 rw [List.getD_eq_getElem?_getD,List.getD_eq_getElem?_getD,List.getElem?_eq_getElem ha,List.getElem?_eq_getElem hb] at this
 exact this
def entChn:Ent:=⟨13,.cons (.st (.cons (.int .i64) (.cons (.sl (.st (.cons (.int .i64) (.cons (.int .i64) (.cons (.sl (.int .i64)) (.sl (.int .i64))))))) (.cons (.sl (.st (.cons (.int .i64) (.cons (.int .i64) (.cons (.int .i64) (.cons (.int .i64) (.cons (.int .i64) (.cons (.int .i64) (.cons (.int .i64) (.cons (.int .i64) (.int .i64))))))))))) (.cons (.sl (.st (.cons (.int .i64) (.cons (.int .i64) (.cons (.int .i64) (.cons (.int .i64) (.cons (.int .i64) (.cons (.int .i64) (.cons (.int .i64) (.cons (.int .i64) (.cons (.int .i64) (.int .i64)))))))))))) (.cons (.sl (.st (.cons (.int .i64) (.cons (.int .i64) .bool)))) (.st (.cons (.int .i64) (.cons (.int .i64) (.int .i64)))))))))) (.cons (.int .i64) (.cons (.sl (.st (.cons (.int .i64) .bool))) .nil)),.cons (.st (.cons (.sl (.st (.cons (.int .i64) (.int .i64)))) (.cons (.sl (.st (.cons (.int .i64) (.int .i64)))) (.sl (.st (.cons (.int .i64) (.cons (.int .i64) (.int .i64)))))))) (.cons (.int .i64) .nil),true,none,fun x=>(x.2.2.1:List DStop).length≤24,fun x=>((chainF x.1 x.2.1 x.2.2.1).1,(chainF x.1 x.2.1 x.2.2.1).2,())⟩
def csChn:List Ent:=[entAsk,entLg20,entCh1,entCh2,entBLen] theorem hcsChn (f:FuncId):findEnt csChn f=findEnt [entAsk,entLg20,entCh1,entCh2,entBLen] f:=rfl
set_option maxRecDepth 10000 in
set_option maxHeartbeats 4000000 in
theorem conChn:Con Tryz.prog entChn:=by
 refine con_is (C:=csChn) x13 (by kernel_rfl) (by simp [csChn,conAsk,conLg20,conCh1,conCh2,conBLen]) fun x hx hf=>?_
 obtain ⟨⟨(N:Int),(A:List DArc),(C:List DCar),(Q:List DReq),(P:List DPair),(S1:Int),(S2:Int),(S3:Int)⟩,(c:Int),(ss:List DStop),_⟩:=x
 replace hx:ss.length≤24:=hx
 cases ha:asksF (N,A,C,Q,P,S1,S2,S3) c ss with
 | false =>
  have hz:chainF (N,A,C,Q,P,S1,S2,S3) c ss=(([],[],[]),1):=by unfold chainF;rw [if_pos ha];rfl
  dsimp only [entChn,x13];simp only [↓hcsChn,entAsk,entLg20,entCh1,entCh2,entBLen,ha,hz,go_sem,Nat.reduceAdd,Nat.reduceSub,Nat.reduceMul,Nat.reduceLT,Nat.reduceLeDiff,Nat.reduceEqDiff,Nat.reduceBEq,Nat.reduceBNe,List.reduceReplicate,reduceIte,reduceCtorEq,↓reduceIte]
  try simp only [ha,hz,td,reduceCtorEq]
 | true =>
  obtain ⟨hw,hc,hss⟩:=asks_iff.1 ha
  dsimp only at hc hss
  obtain ⟨c,rfl⟩:∃ z:Nat,c=z:=⟨c.toNat,by omega⟩
  have hcl:c < C.length:=by omega
  have hcar:=carT (car_in ha)
  have hca:carAt (N,A,C,Q,P,S1,S2,S3) (c:Int)=C.getD c (0,0,0,0,0,0,0,0,0):=rfl
  rw [hca] at hcar
  generalize hK:C.getD c (0,0,0,0,0,0,0,0,0)=car at hcar hca
  obtain ⟨k1,k2,k3,k4,k5,k6,k7,k8,k9⟩:=car
  dsimp only at hcar
  dsimp only [entChn,x13];simp only [↓hcsChn,entAsk,entLg20,entCh1,entCh2,entBLen,ha,hcl,hK,Int.toNat_natCast,go_sem,Nat.reduceAdd,Nat.reduceSub,Nat.reduceMul,Nat.reduceLT,Nat.reduceLeDiff,Nat.reduceEqDiff,Nat.reduceBEq,Nat.reduceBNe,List.reduceReplicate,reduceIte,reduceCtorEq,↓reduceIte]
  try simp only [ha,hcl,hK,Int.toNat_natCast,td,reduceCtorEq]
  refine XW_nilb 23 1 72 (.st (.cons (.int .i64) (.int .i64))) rfl rfl ?_
  refine XW_nilb 23 2 102 (.st (.cons (.int .i64) (.cons (.int .i64) (.int .i64)))) rfl rfl ?_
  refine XW_for 1000 x13_0d [0,1,2,14] (Nat × List (Int × Int)) (fun s=>[(42,.val (.int .i64) (s.1:Int))])
   (fun s=>[(25,.mp .i64 (.int .i64) s.2),(23,.box 46 [.own 21,.own 30,.own 32]),(21,.row 70 (.st (.cons (.int .i64) (.int .i64))) ((List.range (s.1+1)).map (winF (N,A,C,Q,P,S1,S2,S3) c ss))),
    (30,.row 72 (.st (.cons (.int .i64) (.int .i64))) []),(32,.row 102 (.st (.cons (.int .i64) (.cons (.int .i64) (.int .i64)))) (ridesP (N,A,C,Q,P,S1,S2,S3) ss s.1))])
   (fun s=>s.1≤ss.length∧pickM ss s.1 s.2∧∀ k,k≤s.1→badW (N,A,C,Q,P,S1,S2,S3) c ss k=false) (fun s=>ss.length - s.1) (0,[]) ?_ ?_ ?_
  ·dsimp only [x13_0d];simp only [go_sem,Nat.reduceAdd,Nat.reduceSub,Nat.reduceMul,Nat.reduceLT,Nat.reduceLeDiff,Nat.reduceEqDiff,Nat.reduceBEq,Nat.reduceBNe,List.reduceReplicate,reduceIte,reduceCtorEq,↓reduceIte];try trivial
   refine ⟨rfl,?_,rfl⟩
   show [(k3,k4)]=[((carAt (N,A,C,Q,P,S1,S2,S3) (c:Int)).2.2.1,(carAt (N,A,C,Q,P,S1,S2,S3) (c:Int)).2.2.2.1)]
   rw [hca]
  ·refine ⟨Nat.zero_le _,fun r=>⟨rfl,fun h=>?_⟩,fun k hk=>?_⟩
   ·simp at h
   ·have hk0:k=0:=by simpa using hk
    subst hk0
    unfold badW
    rw [decide_eq_false]
    have:=(carT (car_in ha)).2.2.2
    show ¬ (carAt (N,A,C,Q,P,S1,S2,S3) (c:Int)).2.2.1 > (carAt (N,A,C,Q,P,S1,S2,S3) (c:Int)).2.2.2.1
    omega
  ·rintro ⟨j,H⟩ ⟨hj,hH,hB⟩
   dsimp only at hj hH hB
   by_cases hjl:j < ss.length
   ·
    have w2:IntKind.i64.wrap ((j:Int)+1)=((j+1:Nat):Int):=i64_in _ (by have:=hss.1.1;omega)
    have hq:=(hss.2 j hjl).1
    have hwin:=winF_s (N,A,C,Q,P,S1,S2,S3) (c:Int) ss j
    have hcb:=chain_bad (j:=j+1) ha (by omega)
    have hnx:=badW_all hB
    have hpp:=fun {r:Int}=>pickM_pick (r:=r) hss hjl hH
    have hpd:=fun {r:Int}=>pickM_drop (r:=r) hjl hH
    have hry:=ridesP_yes (w:=(N,A,C,Q,P,S1,S2,S3)) (ss:=ss) (j:=j)
    have hrn:=ridesP_no (w:=(N,A,C,Q,P,S1,S2,S3)) (ss:=ss) (j:=j)
    have hrl:=ridesP_le (N,A,C,Q,P,S1,S2,S3) ss j
    have hll:((List.range (j+1)).map (winF (N,A,C,Q,P,S1,S2,S3) (c:Int) ss)).length=j+1:=by rw [List.length_map,List.length_range]
    have hms:=range_map_s (winF (N,A,C,Q,P,S1,S2,S3) (c:Int) ss) (j+1)
    have hbw:badW (N,A,C,Q,P,S1,S2,S3) (c:Int) ss (j+1)=decide ((winF (N,A,C,Q,P,S1,S2,S3) (c:Int) ss (j+1)).1 > (winF (N,A,C,Q,P,S1,S2,S3) (c:Int) ss (j+1)).2):=rfl
    unfold rideP dropB at *
    rw [hca] at hwin
    dsimp only at hwin
    generalize hS:ss.getD j dStop=st at *
    have hS':ss.getD j (0,false)=st:=hS
    obtain ⟨r,p⟩:=st
    dsimp only at hq hwin hry hrn
    have hH':=hH r
    have e1:reqAt (N,A,C,Q,P,S1,S2,S3) r=Q.getD r.toNat dReq:=rfl
    rw [e1] at hwin hry
    obtain ⟨r,rfl⟩:∃ z:Nat,r=z:=⟨r.toNat,by omega⟩
    rw [Int.toNat_natCast] at hwin hry
    have hql:r < Q.length:=by omega
    generalize hQ:Q.getD r dReq=q at *
    have hQ':Q.getD r (0,0,0,0,0,0,0,0,0,0)=q:=hQ
    obtain ⟨q1,q2,q3,q4,q5,q6,q7,q8⟩:=q
    dsimp only at hwin hry
    have goal:∀ (x y:Int) (H':List (Int × Int)),winF (N,A,C,Q,P,S1,S2,S3) (c:Int) ss (j+1)=(x,y)→¬ x > y→pickM ss (j+1) H' →
      ss.length - (j+1) < ss.length - j∧(j+1≤ss.length∧pickM ss (j+1) H'∧∀ k,k≤j+1→badW (N,A,C,Q,P,S1,S2,S3) (c:Int) ss k=false)∧(List.range (j+1)).map (winF (N,A,C,Q,P,S1,S2,S3) (c:Int) ss) ++ [(x,y)]=(List.range (j+1+1)).map (winF (N,A,C,Q,P,S1,S2,S3) (c:Int) ss):=fun x y H' hw1 h1 h2 =>
     ⟨by omega,⟨by omega,h2,hnx (by rw [hbw,hw1];exact decide_eq_false h1)⟩,by rw [← hms,hw1]⟩
    cases p with
    | true =>
     rw [if_pos rfl] at hwin
     replace hrn:=hrn rfl
     dsimp only [x13_0,x13_0d];simp only [↓hcsChn,entAsk,entLg20,entCh1,entCh2,entBLen,hK,hjl,hS',hql,hQ',w2,hll,Int.toNat_natCast,go_sem,Nat.reduceAdd,Nat.reduceSub,Nat.reduceMul,Nat.reduceLT,Nat.reduceLeDiff,Nat.reduceEqDiff,Nat.reduceBEq,Nat.reduceBNe,List.reduceReplicate,reduceIte,reduceCtorEq,↓reduceIte]
     simp only [hjl,hK,w2,hS',hQ',hll,hql,Int.toNat_natCast,td,reduceCtorEq]
     have:=hss.1.1
     refine ⟨fun h=>?_,fun h=>⟨by omega,(j+1,mset H (r:Int) ((j+1:Nat):Int)),?_⟩⟩
     ·rw [hcb (by rw [hbw,hwin];exact decide_eq_true h)]
     ·obtain ⟨g1,g2,g3⟩:=goal _ _ _ hwin (Int.not_lt.2 h) (hpp rfl)
      exact ⟨g1,g2,rfl,rfl,g3,hrn⟩
    | false =>
     rw [if_neg (by simp)] at hwin
     by_cases hm:((r:Int),true) ∈ ss.take j
     ·rw [if_pos hm] at hwin
      have h7:=hH'.2 hm
      replace hH':=hH'.1
      rw [decide_eq_true hm] at hH'
      replace hry:=hry (by rw [decide_eq_true hm];rfl)
      dsimp only [x13_0,x13_0d];simp only [↓hcsChn,entAsk,entLg20,entCh1,entCh2,entBLen,hK,hjl,hS',hql,hQ',w2,hll,hH',h7,Int.toNat_natCast,go_sem,Nat.reduceAdd,Nat.reduceSub,Nat.reduceMul,Nat.reduceLT,Nat.reduceLeDiff,Nat.reduceEqDiff,Nat.reduceBEq,Nat.reduceBNe,List.reduceReplicate,reduceIte,reduceCtorEq,↓reduceIte]
      simp only [hjl,hK,w2,hS',hQ',hll,hql,hH',h7,Int.toNat_natCast,td,reduceCtorEq]
      have:=hss.1.1
      refine ⟨by omega,fun h=>?_,fun h=>⟨by omega,(j+1,H),?_⟩⟩
      ·rw [hcb (by rw [hbw,hwin];exact decide_eq_true h)]
      ·obtain ⟨g1,g2,g3⟩:=goal _ _ _ hwin (Int.not_lt.2 h) (hpd rfl)
       exact ⟨g1,g2,rfl,rfl,g3,hry⟩
     ·rw [if_neg hm] at hwin
      replace hH':=hH'.1
      rw [decide_eq_false hm] at hH'
      replace hrn:=hrn (by rw [decide_eq_false hm];rfl)
      dsimp only [x13_0,x13_0d];simp only [↓hcsChn,entAsk,entLg20,entCh1,entCh2,entBLen,hK,hjl,hS',hql,hQ',w2,hll,hH',Int.toNat_natCast,go_sem,Nat.reduceAdd,Nat.reduceSub,Nat.reduceMul,Nat.reduceLT,Nat.reduceLeDiff,Nat.reduceEqDiff,Nat.reduceBEq,Nat.reduceBNe,List.reduceReplicate,reduceIte,reduceCtorEq,↓reduceIte]
      simp only [hjl,hK,w2,hS',hQ',hll,hql,hH',Int.toNat_natCast,td,reduceCtorEq]
      have:=hss.1.1
      refine ⟨fun h=>?_,fun h=>⟨by omega,(j+1,H),?_⟩⟩
      ·rw [hcb (by rw [hbw,hwin];exact decide_eq_true h)]
      ·obtain ⟨g1,g2,g3⟩:=goal _ _ _ hwin (Int.not_lt.2 h) (hpd rfl)
       exact ⟨g1,g2,rfl,rfl,g3,hrn⟩
   ·have hj2:j=ss.length:=by omega
    subst hj2
    have h12:=rides_12 (w:=(N,A,C,Q,P,S1,S2,S3)) hss hx
    have hRm:∀ x ∈ ridesP (N,A,C,Q,P,S1,S2,S3) ss ss.length,0≤x.1∧x.1≤ss.length:=fun x h=>ridesR_rng _ _ _ x ((rides_perm (w:=(N,A,C,Q,P,S1,S2,S3)) hss).mem_iff.1 h)
    have hRp:=rides_perm (w:=(N,A,C,Q,P,S1,S2,S3)) hss
    generalize hR:ridesP (N,A,C,Q,P,S1,S2,S3) ss ss.length=R at h12 hRm hRp ⊢
    have w0:IntKind.i64.wrap (((R.length:Nat):Int) - 0)=(R.length:Int):=(i64_in _ (by omega)).trans (by omega)
    have w1:IntKind.u64.wrap ((R.length:Nat):Int)=(R.length:Int):=u64_in (by omega) (by omega)
    have w2:(R.length:Int)≤12:=by omega
    have w3:IntKind.i64.wrap (0+1)=1:=by decide
    have w4:(R.length:Int)≤255:=by omega
    have w5:(0:Int)≤R.length:=by omega
    dsimp only [x13_0,x13_0d,x43,x101,x156];simp only [↓hcsChn,entAsk,entLg20,entCh1,entCh2,entBLen,hK,w0,w1,w2,w3,w4,w5,go_sem,Nat.reduceAdd,Nat.reduceSub,Nat.reduceMul,Nat.reduceLT,Nat.reduceLeDiff,Nat.reduceEqDiff,Nat.reduceBEq,Nat.reduceBNe,List.reduceReplicate,reduceIte,reduceCtorEq,↓reduceIte]
    simp only [hjl,w0,w1,w2,w3,w4,w5,td,reduceCtorEq]
    refine XW_first 2000 x101_0d [] Unit (fun _=>[]) (fun _=>[]) (fun _=>False) (fun _=>0) 0 ?_ (fun _ h=>h.elim)
    dsimp only [x101_0,x101_0d,x156];simp only [↓hcsChn,entAsk,entLg20,entCh1,entCh2,entBLen,w0,w1,w2,w3,go_sem,Nat.reduceAdd,Nat.reduceSub,Nat.reduceMul,Nat.reduceLT,Nat.reduceLeDiff,Nat.reduceEqDiff,Nat.reduceBEq,Nat.reduceBNe,List.reduceReplicate,reduceIte,reduceCtorEq,↓reduceIte]
    simp only [w0,w1,w2,w3,td,reduceCtorEq]
    refine XW_for 2000 x156_0d [0,1,2,14,21,23,25,30] (Nat × List DRide) (fun s=>[(8,.val (.int .i64) (s.1:Int))]) (fun s=>[(32,.row 102 (.st (.cons (.int .i64) (.cons (.int .i64) (.int .i64)))) s.2)])
     (fun s=>1≤s.1∧(s.1≤R.length∨s.1=1)∧s.2.Perm R∧sortedTo s.2 s.1) (fun s=>R.length+1 - s.1) (1,R) ?_ ?_ ?_
    ·dsimp only [x156_0d];simp only [go_sem,Nat.reduceAdd,Nat.reduceSub,Nat.reduceMul,Nat.reduceLT,Nat.reduceLeDiff,Nat.reduceEqDiff,Nat.reduceBEq,Nat.reduceBNe,List.reduceReplicate,reduceIte,reduceCtorEq,↓reduceIte];try trivial
    ·exact ⟨Nat.le_refl _,.inr rfl,.refl _,fun a b h1 h2=>by omega⟩
    ·rintro ⟨i,L⟩ ⟨hi1,hi2,hLp,hLs⟩
     dsimp only at hi1 hi2 hLp hLs
     have hLl:=hLp.length_eq
     by_cases hil:i < R.length
     ·have w6:IntKind.i64.wrap ((i:Int)+1)=((i+1:Nat):Int):=i64_in _ (by omega)
      dsimp only [x156_0,x156_0d];simp only [↓hcsChn,entAsk,entLg20,entCh1,entCh2,entBLen,hil,w6,go_sem,Nat.reduceAdd,Nat.reduceSub,Nat.reduceMul,Nat.reduceLT,Nat.reduceLeDiff,Nat.reduceEqDiff,Nat.reduceBEq,Nat.reduceBNe,List.reduceReplicate,reduceIte,reduceCtorEq,↓reduceIte]
      simp only [hil,w6,td,reduceCtorEq]
      refine XW_for 3000 x156_1d [0,1,2,14,21,23,25,30] (Nat × List DRide) (fun s=>[(9,.val (.int .i64) (s.1:Int))]) (fun s=>[(32,.row 102 (.st (.cons (.int .i64) (.cons (.int .i64) (.int .i64)))) s.2)])
       (fun s=>s.1≤i∧s.2.Perm R∧almost s.2 i s.1) (fun s=>s.1) (i,L) ?_ ?_ ?_
      ·dsimp only [x156_1d];simp only [go_sem,Nat.reduceAdd,Nat.reduceSub,Nat.reduceMul,Nat.reduceLT,Nat.reduceLeDiff,Nat.reduceEqDiff,Nat.reduceBEq,Nat.reduceBNe,List.reduceReplicate,reduceIte,reduceCtorEq,↓reduceIte];try trivial
      ·exact ⟨Nat.le_refl _,hLp,almost_start hLs⟩
      ·rintro ⟨j,L'⟩ ⟨hji,hLp',hLa⟩
       dsimp only at hji hLp' hLa
       have hLl':=hLp'.length_eq
       by_cases hj0:j=0
       ·dsimp only [x156_1,x156_1d];simp only [↓hcsChn,entAsk,entLg20,entCh1,entCh2,entBLen,hil,w6,hLl',go_sem,Nat.reduceAdd,Nat.reduceSub,Nat.reduceMul,Nat.reduceLT,Nat.reduceLeDiff,Nat.reduceEqDiff,Nat.reduceBEq,Nat.reduceBNe,List.reduceReplicate,reduceIte,reduceCtorEq,↓reduceIte]
        simp only [hil,w6,hLl',td,reduceCtorEq]
        exact ⟨⟨fun h=>by omega,fun h=>by omega,fun h=>by omega,fun h=>by omega⟩,fun h=>by omega,fun _=>⟨(i+1,L'),by dsimp only;omega,⟨by dsimp only;omega,.inl (by dsimp only;omega),hLp',almost_done hLa hji (.inl hj0)⟩,rfl,rfl⟩⟩
       ·have w7:IntKind.i64.wrap ((j:Int) - 1)=((j - 1:Nat):Int):=(i64_in _ (by omega)).trans (by omega)
        have m1:=hRm _ (hLp'.mem_iff.1 (getD_mem2 (d:=dRd) (k:=j) (by omega)))
        have m2:=hRm _ (hLp'.mem_iff.1 (getD_mem2 (d:=dRd) (k:=j - 1) (by omega)))
        have w8:IntKind.i64.wrap ((L'.getD j (0,0,0)).1 - (L'.getD (j - 1) (0,0,0)).1)=(L'.getD j (0,0,0)).1 - (L'.getD (j - 1) (0,0,0)).1:=i64_in _ (by
         change 0≤(L'.getD j (0,0,0)).1∧(L'.getD j (0,0,0)).1≤_ at m1
         change 0≤(L'.getD (j - 1) (0,0,0)).1∧(L'.getD (j - 1) (0,0,0)).1≤_ at m2
         omega)
        dsimp only [x156_1,x156_1d];simp only [↓hcsChn,entAsk,entLg20,entCh1,entCh2,entBLen,hil,w6,w7,w8,hLl',Int.toNat_natCast,go_sem,Nat.reduceAdd,Nat.reduceSub,Nat.reduceMul,Nat.reduceLT,Nat.reduceLeDiff,Nat.reduceEqDiff,Nat.reduceBEq,Nat.reduceBNe,List.reduceReplicate,reduceIte,reduceCtorEq,↓reduceIte]
        simp only [hil,w6,w7,w8,hLl',Int.toNat_natCast,List.length_set,td,reduceCtorEq]
        have hj1:j < R.length:=by omega
        have hj2:j - 1 < R.length:=by omega
        have hj3:((j - 1:Nat):Int) < R.length:=by omega
        have hj4:(0:Int)≤((j - 1:Nat):Int):=by omega
        have hj5:(0:Int) < j:=by omega
        refine ⟨by omega,fun h=>⟨by omega,(j - 1,swapR L' j),by dsimp only;omega,⟨by dsimp only;omega,(swapR_perm (by omega)).trans hLp',almost_step hLa (by omega) (by omega) hji ?_⟩,rfl,rfl⟩,fun h=>⟨(i+1,L'),by dsimp only;omega,⟨by dsimp only;omega,.inl (by dsimp only;omega),hLp',almost_done hLa hji (.inr ?_)⟩,rfl,rfl⟩⟩
        ·have:=h.2
         show (L'.getD j (0,0,0)).1 < (L'.getD (j - 1) (0,0,0)).1
         omega
        ·have:=h hj5
         show (L'.getD (j - 1) (0,0,0)).1≤(L'.getD j (0,0,0)).1
         omega
     ·dsimp only [x156_0,x156_0d];simp only [↓hcsChn,entAsk,entLg20,entCh1,entCh2,entBLen,hil,go_sem,Nat.reduceAdd,Nat.reduceSub,Nat.reduceMul,Nat.reduceLT,Nat.reduceLeDiff,Nat.reduceEqDiff,Nat.reduceBEq,Nat.reduceBNe,List.reduceReplicate,reduceIte,reduceCtorEq,↓reduceIte]
      simp only [hil,td,reduceCtorEq]
      obtain rfl:L=ridesR (N,A,C,Q,P,S1,S2,S3) ss ss.length:=sorted_eq (hLp.trans hRp) (sortedTo_pairwise hLs (by omega)) (ridesR_sorted _ _ _)
      refine XW_for 3000 x13_1d [0,1,2,14,21,23,25,32] Nat (fun k=>[(117,.val (.int .i64) (k:Int))]) (fun k=>[(30,.row 72 (.st (.cons (.int .i64) (.int .i64))) ((List.range k).map fun k=>(legAt (N,A,C,Q,P,S1,S2,S3) c ss k).1))])
       (fun k=>k≤ss.length∧∀ k',k' < k→(legAt (N,A,C,Q,P,S1,S2,S3) c ss k').2=true) (fun k=>ss.length - k) 0 ?_ ?_ ?_
      ·dsimp only [x13_1d];simp only [go_sem,Nat.reduceAdd,Nat.reduceSub,Nat.reduceMul,Nat.reduceLT,Nat.reduceLeDiff,Nat.reduceEqDiff,Nat.reduceBEq,Nat.reduceBNe,List.reduceReplicate,reduceIte,reduceCtorEq,↓reduceIte];try trivial
      ·exact ⟨Nat.zero_le _,fun k hk=>by omega⟩
      ·rintro k ⟨hk,hB'⟩
       by_cases hkl:k < ss.length
       ·have w6:IntKind.i64.wrap ((k:Int)+1)=((k+1:Nat):Int):=i64_in _ (by omega)
        dsimp only [x13_1,x13_1d];simp only [↓hcsChn,entAsk,entLg20,entCh1,entCh2,entBLen,hkl,hss,w6,go_sem,Nat.reduceAdd,Nat.reduceSub,Nat.reduceMul,Nat.reduceLT,Nat.reduceLeDiff,Nat.reduceEqDiff,Nat.reduceBEq,Nat.reduceBNe,List.reduceReplicate,reduceIte,reduceCtorEq,↓reduceIte]
        simp only [hkl,w6,td,reduceCtorEq]
        have hnd:∀ k:Nat,(if ((k:Nat):Int)=0 then k2 else if (ss.getD (Int.toNat (((k:Nat):Int) - 1)) dStop).2=true then (reqAt (N,A,C,Q,P,S1,S2,S3) (ss.getD (Int.toNat (((k:Nat):Int) - 1)) dStop).1).2.1 else (reqAt (N,A,C,Q,P,S1,S2,S3) (ss.getD (Int.toNat (((k:Nat):Int) - 1)) dStop).1).2.2.1)=nodeF (N,A,C,Q,P,S1,S2,S3) c ss k:=by
         intro k
         cases k with
         | zero =>
          refine (if_pos (show ((0:Nat):Int)=0 from rfl)).trans ?_
          show k2=(carAt (N,A,C,Q,P,S1,S2,S3) (c:Int)).2.1
          rw [hca]
         | succ k =>
          rw [if_neg (by omega),show Int.toNat (((k+1:Nat):Int) - 1)=k by omega,nodeF_s]
        have hwd:((List.range (ss.length+1)).map (winF (N,A,C,Q,P,S1,S2,S3) (c:Int) ss)).getD k (0,0)=winF (N,A,C,Q,P,S1,S2,S3) (c:Int) ss k:=by
         rw [List.getD_eq_getElem?_getD,List.getElem?_map,List.getElem?_range (by omega)];rfl
        have hwl:((List.range (ss.length+1)).map (winF (N,A,C,Q,P,S1,S2,S3) (c:Int) ss)).length=ss.length+1:=by rw [List.length_map,List.length_range]
        have hll:((List.range k).map fun k=>(legAt (N,A,C,Q,P,S1,S2,S3) (c:Int) ss k).1).length=k:=by rw [List.length_map,List.length_range]
        rw [hnd k,hnd (k+1),hwd,hwl,hll]
        have hLg:legF (N,A,C,Q,P,S1,S2,S3) (nodeF (N,A,C,Q,P,S1,S2,S3) c ss k) (nodeF (N,A,C,Q,P,S1,S2,S3) c ss (k+1)) (winF (N,A,C,Q,P,S1,S2,S3) c ss k)=legAt (N,A,C,Q,P,S1,S2,S3) c ss k:=rfl
        rw [hLg]
        have hwr:=win_rng ha (k:=k) (by omega)
        have hbk:(winF (N,A,C,Q,P,S1,S2,S3) c ss k).1≤(winF (N,A,C,Q,P,S1,S2,S3) c ss k).2:=by
         have:=hB k (by omega)
         unfold badW at this
         have:=of_decide_eq_false this
         omega
        refine ⟨⟨Int.ofNat_le.2 hk,Int.ofNat_le.2 hkl,by omega,by omega,hw,hwr,hbk⟩,fun h=>?_,fun h=>⟨by omega,k+1,by omega,⟨by omega,fun k' hk'=>?_⟩,rfl,range_map_s _ k⟩⟩
        ·have hz:chainF (N,A,C,Q,P,S1,S2,S3) c ss=(([],[],[]),4):=by
          unfold chainF
          rw [if_neg (by rw [ha];simp),if_neg ?_,if_pos (List.any_eq_true.2 ⟨k,List.mem_range.2 hkl,by rw [h];rfl⟩)];· rfl
          intro h'
          obtain ⟨i,hi,hb⟩:=List.any_eq_true.1 h'
          rw [hB i (by have:=List.mem_range.1 hi;omega)] at hb
          exact Bool.noConfusion hb
         rw [hz]
        ·rcases Nat.lt_or_ge k' k with q | q
         ·exact hB' k' q
         ·rw [show k' = k by omega];exact h
       ·dsimp only [x13_1,x13_1d];simp only [↓hcsChn,entAsk,entLg20,entCh1,entCh2,entBLen,hkl,go_sem,Nat.reduceAdd,Nat.reduceSub,Nat.reduceMul,Nat.reduceLT,Nat.reduceLeDiff,Nat.reduceEqDiff,Nat.reduceBEq,Nat.reduceBNe,List.reduceReplicate,reduceIte,reduceCtorEq,↓reduceIte]
        simp only [hkl,td,reduceCtorEq]
        obtain rfl:k=ss.length:=by omega
        have hz:chainF (N,A,C,Q,P,S1,S2,S3) c ss=((winsF (N,A,C,Q,P,S1,S2,S3) c ss,legsF (N,A,C,Q,P,S1,S2,S3) c ss,ridesR (N,A,C,Q,P,S1,S2,S3) ss ss.length),0):=by
         unfold chainF
         rw [if_neg (by rw [ha];simp),if_neg ?_,if_neg ?_]
         ·intro h'
          obtain ⟨i,hi,hb⟩:=List.any_eq_true.1 h'
          rw [hB' i (List.mem_range.1 hi)] at hb
          exact Bool.noConfusion hb
         ·intro h'
          obtain ⟨i,hi,hb⟩:=List.any_eq_true.1 h'
          rw [hB i (by have:=List.mem_range.1 hi;omega)] at hb
          exact Bool.noConfusion hb
        rw [hz];rfl
end T
end Go.Proofs.YtecdcopihghnaaaGreat
end
section
namespace Go.Proofs.YtecdcopihghnaaaGreat
set_option linter.unusedVariables false
set_option linter.unusedSimpArgs false
open Go.RowKit Go.IntWalk
namespace T
def entHigh:Ent:=⟨105,.cons (.int .i64) (.cons (.int .i64) (.cons (.ptr (.sl (.int .i64))) .nil)),(.int .i64),false,none,fun x=>((0≤(x.1:Int)∧(x.1:Int) < List.length (α:=Int) x.2.2.1)∧0≤(x.2.1:Int)∧(x.2.1:Int) < List.length (α:=Int) x.2.2.1)∧Within 0 1000000000 x.2.2.1,fun x=>List.getD (α:=Int) x.2.2.1 (x.2.1:Int).toNat 0 - List.getD (α:=Int) x.2.2.1 (x.1:Int).toNat 0⟩
def csHg:List Ent:=[] theorem hcsHg (f:FuncId):findEnt csHg f=findEnt [] f:=rfl
theorem conHigh:Con Tryz.prog entHigh:=by
 refine con_is (C:=csHg) x105 (by kernel_rfl) (by simp [csHg]) fun x hx hf=>?_
 obtain ⟨(a:Int),(b:Int),(S:List Int),_⟩:=x
 obtain ⟨⟨⟨h1,h2⟩,h3,h4⟩,hw⟩:=hx
 have h1:0≤a:=h1
 have h2:a < (S.length:Int):=h2
 have h3:0≤b:=h3
 have h4:b < (S.length:Int):=h4
 have hw:Within 0 1000000000 S:=hw
 have w1:=hw.getD (Int.le_refl _) (by omega) a.toNat
 have w2:=hw.getD (Int.le_refl _) (by omega) b.toNat
 dsimp only [entHigh,x105];simp only [↓hcsHg,go_sem,Nat.reduceAdd,Nat.reduceSub,Nat.reduceMul,Nat.reduceLT,Nat.reduceLeDiff,Nat.reduceEqDiff,Nat.reduceBEq,Nat.reduceBNe,List.reduceReplicate,reduceIte,reduceCtorEq,↓reduceIte];try simp only [td,reduceCtorEq]
 exact ⟨⟨⟨h3,h4⟩,h1,h2⟩,i64_in _ (by omega)⟩
def entGrd:Ent:=⟨49,.cons (.st (.cons (.sl (.st (.cons (.int .i64) (.int .i64)))) (.cons (.sl (.st (.cons (.int .i64) (.int .i64)))) (.sl (.st (.cons (.int .i64) (.cons (.int .i64) (.int .i64)))))))) .nil,.cons (.sl (.int .i64)) (.cons (.int .i64) .nil),true,none,fun _=>True,fun x=>((guardF x.1).1,(guardF x.1).2,())⟩
def csGr:List Ent:=[entRctR,entWorst,entHigh] theorem hcsGr (f:FuncId):findEnt csGr f=findEnt [entRctR,entWorst,entHigh] f:=rfl
set_option maxHeartbeats 4000000 in
theorem conGrd:Con Tryz.prog entGrd:=by
 refine con_isM (C:=csGr) z49 (by kernel_rfl) (by simp [csGr,conRctR,conWorst,conHigh]) fun x hx hf=>?_
 obtain ⟨⟨(W:List DWin),(L:List DLeg),(R:List DRide)⟩,_⟩:=x
 dsimp only [entGrd,z49];simp only [↓hcsGr,entRctR,entWorst,entHigh,go_sem,Nat.reduceAdd,Nat.reduceSub,Nat.reduceMul,Nat.reduceLT,Nat.reduceLeDiff,Nat.reduceEqDiff,Nat.reduceBEq,Nat.reduceBNe,List.reduceReplicate,reduceIte,reduceCtorEq,↓reduceIte]
 try simp only [td,reduceCtorEq]
 refine ⟨fun h=>by unfold guardF;rw [if_pos h],fun hr=>?_⟩
 have hc:=(rightC_iff.1 hr).1
 dsimp only at hc
 have hps:∀ k,_:=fun k=>psF_bd hr k
 dsimp only at hps
 have hlr:∀ k,((List.range (k+1)).map (psF L)).length=k+1:=fun k=>by rw [List.length_map,List.length_range]
 refine XW_for 1000 z49_0d [0,1] Nat (fun j=>[(24,.val (.int .i64) (j:Int))]) (fun j=>[(7,.box 32 [.own 6]),(6,.row 3 (.int .i64) ((List.range (j+1)).map (psF L)))]) (fun j=>j≤L.length) (fun j=>L.length - j) 0 ?_ ?_ ?_
 ·dsimp only [z49_0d]
  simp only [go_sem,Nat.reduceAdd,Nat.reduceSub,Nat.reduceMul,Nat.reduceLT,Nat.reduceLeDiff,Nat.reduceEqDiff,Nat.reduceBEq,Nat.reduceBNe,List.reduceReplicate,reduceIte,reduceCtorEq,↓reduceIte]
  exact ⟨rfl,rfl⟩
 ·exact Nat.zero_le _
 intro j hj
 by_cases hj':j < L.length
 ·have w2:IntKind.i64.wrap ((j:Int)+1)=((j+1:Nat):Int):=i64_in _ (by omega)
  have w3:IntKind.i64.wrap (((j+1:Nat):Int) - 1)=(j:Int):=(i64_in _ (by omega)).trans (by omega)
  have hgd:((List.range (j+1)).map (psF L)).getD j 0=psF L j:=range_getD _ (by omega)
  dsimp only [z49_0,z49_0d]
  simp only [↓hcsGr,entRctR,entWorst,entHigh,hj',hlr,hgd,w2,w3,Int.toNat_natCast,go_sem,Nat.reduceAdd,Nat.reduceSub,Nat.reduceMul,Nat.reduceLT,Nat.reduceLeDiff,Nat.reduceEqDiff,Nat.reduceBEq,Nat.reduceBNe,List.reduceReplicate,reduceIte,reduceCtorEq,↓reduceIte]
  try simp only [hj',hlr,hgd,w2,w3,Int.toNat_natCast,td,reduceCtorEq]
  exact ⟨⟨by omega,by omega,by omega⟩,j+1,by omega,hj',rfl,by
   have h1:=hps j
   have h2:=right_leg hr (k:=j) hj'
   dsimp only at h2
   rw [i64_in (psF L j+(L.getD j (0,0)).2) (by omega)]
   exact range_snoc (psF L) (j+1)⟩
 obtain rfl:j=L.length:=by omega
 dsimp only [z49_0,z49_0d]
 simp only [↓hcsGr,entRctR,entWorst,entHigh,go_sem,Nat.reduceAdd,Nat.reduceSub,Nat.reduceMul,Nat.reduceLT,Nat.reduceLeDiff,Nat.reduceEqDiff,Nat.reduceBEq,Nat.reduceBNe,List.reduceReplicate,reduceIte,reduceCtorEq,↓reduceIte]
 simp only [hj',td,reduceCtorEq]
 rw [List.length_replicate]
 have w4:IntKind.i64.wrap ((W.length:Int) - 1)=(W.length:Int) - 1:=i64_in _ (by omega)
 rw [w4]
 refine ⟨by show (8:Int) * (W.length:Int)≤_;omega,?_⟩
 have hgl:∀ p,(gsF (W,L,R) (W.length - p)).length=W.length - p:=fun p=>gsF_len _ _
 have hgb:∀ p,Within 0 (85983232 * (((W.length - p:Nat):Int)+1)) (gsF (W,L,R) (W.length - p)):=fun p=>gs_bd hr _ (Nat.sub_le _ _)
 refine XW_for 2000 z49_1d [0,7,6] Nat (fun p=>[(9,.val (.int .i64) ((p:Int) - 1))]) (fun p=>[(1006,.row 3 (.int .i64) (aR p (gsF (W,L,R) (W.length - p))))]) (fun p=>p≤W.length∧∀ r ∈ R,(p:Int)≤r.1→lateR (W,L,R) r=false) (fun p=>p) W.length ?_ ?_ ?_
 ·dsimp only [z49_1d]
  simp only [go_sem,Nat.reduceAdd,Nat.reduceSub,Nat.reduceMul,Nat.reduceLT,Nat.reduceLeDiff,Nat.reduceEqDiff,Nat.reduceBEq,Nat.reduceBNe,List.reduceReplicate,reduceIte,reduceCtorEq,↓reduceIte]
  rw [Nat.sub_self]
  exact (List.append_nil _).symm
 ·refine ⟨Nat.le_refl _,fun r hrm hr2=>?_⟩
  have:=(rightC_iff.1 hr).2.2.2 r hrm
  dsimp only at this
  omega
 rintro p ⟨hp,hnl⟩
 have hrest:=hgl p
 have hrb:=hgb p
 generalize hG:gsF (W,L,R) (W.length - p)=rest at hrest hrb
 cases p with
 | succ k =>
  have e9:((k+1:Nat):Int) - 1=(k:Int):=by omega
  have e10:(k:Int) ≥ 0:=by omega
  dsimp only [z49_1,z49_1d]
  simp only [↓hcsGr,entRctR,entWorst,entHigh,e9,e10,aR_set,aR_len,Int.toNat_natCast,go_sem,Nat.reduceAdd,Nat.reduceSub,Nat.reduceMul,Nat.reduceLT,Nat.reduceLeDiff,Nat.reduceEqDiff,Nat.reduceBEq,Nat.reduceBNe,List.reduceReplicate,reduceIte,reduceCtorEq,↓reduceIte]
  try simp only [e9,e10,aR_set,aR_len,Int.toNat_natCast,td,reduceCtorEq]
  refine ⟨⟨by omega,by omega⟩,?_⟩
  have hk:k < W.length:=by omega
  have hstep:=gs_step (W,L,R) (k:=k) hk
  rw [hG] at hstep
  have hfp:∀ i,0≤(R.take i).foldl (rF (W,L,R) k rest) (W.getD k (0,0)).1∧(R.take i).foldl (rF (W,L,R) k rest) (W.getD k (0,0)).1≤85983232 * (((W.length - (k+1):Nat):Int)+1)+85983232:=fun i=>by
   have h2:=right_win hr (k:=k) hk
   dsimp only at h2
   exact fold_bd hr (by omega) hrb (R.take i) (fun r hr=>List.mem_of_mem_take hr) _ h2.1 (by omega)
  refine XW_for 3000 z49_2d [0,7,6] Nat (fun i=>[(65,.val (.int .i64) (i:Int))]) (fun i=>[(1006,.row 3 (.int .i64) (bR k ((R.take i).foldl (rF (W,L,R) k rest) (W.getD k (0,0)).1) rest))]) (fun i=>i≤R.length∧∀ q,q < i→(R.getD q (0,0,0)).1=k→lateR (W,L,R) (R.getD q (0,0,0))=false) (fun i=>R.length - i) 0 ?_ ?_ ?_
  ·dsimp only [z49_2d]
   simp only [go_sem,Nat.reduceAdd,Nat.reduceSub,Nat.reduceMul,Nat.reduceLT,Nat.reduceLeDiff,Nat.reduceEqDiff,Nat.reduceBEq,Nat.reduceBNe,List.reduceReplicate,reduceIte,reduceCtorEq,↓reduceIte]
   exact ⟨rfl,rfl⟩
  ·exact ⟨Nat.zero_le _,fun q hq=>absurd hq (Nat.not_lt_zero _)⟩
  rintro i ⟨hi,hm⟩
  by_cases hi':i < R.length
  ·have w3:IntKind.i64.wrap ((i:Int)+1)=((i+1:Nat):Int):=i64_in _ (by omega)
   have hrd:=right_ride hr (k:=i) hi'
   have hts:R.take (i+1)=R.take i ++ [R.getD i (0,0,0)]:=by
    rw [List.take_succ_eq_append_getElem hi']
    simp [List.getD,hi']
   have hfi:=hfp i
   have hmem:=getD_mem2 (d:=((0,0,0):DRide)) hi'
   generalize hS:R.getD i (0,0,0)=r at hrd hts hmem
   generalize hA:(R.take i).foldl (rF (W,L,R) k rest) (W.getD k (0,0)).1=acc at hfi
   obtain ⟨a,b,d⟩:=r
   dsimp only at hrd
   by_cases hak:a=k
   ·subst hak
    obtain ⟨b,rfl⟩:∃ z:Nat,b=z:=⟨b.toNat,by omega⟩
    have hg1:((List.range (L.length+1)).map (psF L)).getD b 0=psF L b:=range_getD _ (by omega)
    have hg2:((List.range (L.length+1)).map (psF L)).getD k 0=psF L k:=range_getD _ (by omega)
    have hsw:Within 0 1000000000 ((List.range (L.length+1)).map (psF L)):=fun x hx=>by
     obtain ⟨q,hq,rfl⟩:=List.mem_map.1 hx
     have:=hps q
     have:=List.mem_range.1 hq
     omega
    have hbl:(b:Int) < ((L.length+1:Nat):Int):=by omega
    have hkl:k < L.length+1:=by omega
    have hb0:(0:Int)≤(b:Int):=Int.natCast_nonneg _
    by_cases hlate:d < psF L b - psF L k
    ·have hlt:guardF (W,L,R)=([],20):=by
      unfold guardF
      rw [if_neg (by rw [hr];simp),if_pos (late_any.2 ⟨_,hmem,by unfold lateR;dsimp only;rw [Int.toNat_natCast,Int.toNat_natCast];exact decide_eq_true hlate⟩)]
     dsimp only [z49_2,z49_2d]
     simp only [↓hcsGr,entRctR,entWorst,entHigh,hi',hS,hA,w3,hlr,hg1,hg2,hsw,hbl,hkl,hb0,hlate,hlt,Int.toNat_natCast,go_sem,Nat.reduceAdd,Nat.reduceSub,Nat.reduceMul,Nat.reduceLT,Nat.reduceLeDiff,Nat.reduceEqDiff,Nat.reduceBEq,Nat.reduceBNe,List.reduceReplicate,reduceIte,reduceCtorEq,↓reduceIte]
     try simp only [hi',hS,hA,w3,hlr,hg1,hg2,hsw,hbl,hkl,hb0,hlate,hlt,Int.toNat_natCast,td,reduceCtorEq]
    have w5:IntKind.i64.wrap ((k:Int)+1)=((k+1:Nat):Int):=i64_in _ (by omega)
    dsimp only [z49_2,z49_2d]
    simp only [↓hcsGr,entRctR,entWorst,entHigh,hi',hS,hA,w3,w5,hlr,hg1,hg2,hsw,hbl,hkl,hb0,hlate,Int.toNat_natCast,go_sem,Nat.reduceAdd,Nat.reduceSub,Nat.reduceMul,Nat.reduceLT,Nat.reduceLeDiff,Nat.reduceEqDiff,Nat.reduceBEq,Nat.reduceBNe,List.reduceReplicate,reduceIte,reduceCtorEq,↓reduceIte]
    try simp only [hi',hS,hA,w3,w5,hlr,hg1,hg2,hsw,hbl,hkl,hb0,hlate,Int.toNat_natCast,td,reduceCtorEq]
    have hla:lateR (W,L,R) ((k:Int),(b:Int),d)=false:=by
     unfold lateR
     dsimp only
     rw [Int.toNat_natCast,Int.toNat_natCast]
     exact decide_eq_false (by omega)
    have hrf:rF (W,L,R) k rest acc ((k:Int),(b:Int),d)=mF (W,L,R) k rest ((k:Int),(b:Int),d) acc (b - k):=by
     unfold rF
     rw [if_pos rfl]
     dsimp only
     rw [Int.toNat_natCast]
    have hmb:=mF_bd hr hmem rfl (by omega) hrb hfi.1 hfi.2
    dsimp only at hmb
    rw [Int.toNat_natCast] at hmb
    refine XW_for 4000 z49_3d [0,7,6,3003] Nat (fun q=>[(12,.val (.int .i64) ((k+1+q:Nat):Int))]) (fun q=>[(1006,.row 3 (.int .i64) (bR k (mF (W,L,R) k rest ((k:Int),(b:Int),d) acc q) rest))]) (fun q=>q≤b - k) (fun q=>b - k - q) 0 ?_ ?_ ?_
    ·dsimp only [z49_3d]
     simp only [go_sem,Nat.reduceAdd,Nat.reduceSub,Nat.reduceMul,Nat.reduceLT,Nat.reduceLeDiff,Nat.reduceEqDiff,Nat.reduceBEq,Nat.reduceBNe,List.reduceReplicate,reduceIte,reduceCtorEq,↓reduceIte]
     rfl
    ·exact Nat.zero_le _
    intro q hq
    by_cases hq':q < b - k
    ·have w6:IntKind.i64.wrap (((k+1+q:Nat):Int)+1)=((k+1+(q+1):Nat):Int):=(i64_in _ (by omega)).trans (by omega)
     have hcb:((k+1+q:Nat):Int)≤(b:Int):=by omega
     have hg3:((List.range (L.length+1)).map (psF L)).getD (k+1+q) 0=psF L (k+1+q):=range_getD _ (by omega)
     have hql:k+1+q < L.length+1:=by omega
     have hmq:=hmb q (by omega)
     have hrq:=hrb.getD (by omega) (by omega) q
     have hpm:=psF_mono hr (a:=k+1+q) (b:=b) (by omega)
     dsimp only at hpm
     have w7:IntKind.i64.wrap (rest.getD q 0+(psF L b - psF L (k+1+q)))=rest.getD q 0+(psF L b - psF L (k+1+q)):=i64_in _ (by omega)
     have w8:IntKind.i64.wrap (rest.getD q 0+(psF L b - psF L (k+1+q)) - d)=rest.getD q 0+(psF L b - psF L (k+1+q)) - d:=i64_in _ (by omega)
     dsimp only [z49_3,z49_3d]
     simp only [↓hcsGr,entRctR,entWorst,entHigh,hcb,bR_len,bR_at,bR_rest,bR_set,hlr,hg1,hg3,hsw,hbl,hb0,hql,w6,w7,w8,Int.toNat_natCast,go_sem,Nat.reduceAdd,Nat.reduceSub,Nat.reduceMul,Nat.reduceLT,Nat.reduceLeDiff,Nat.reduceEqDiff,Nat.reduceBEq,Nat.reduceBNe,List.reduceReplicate,reduceIte,reduceCtorEq,↓reduceIte]
     try simp only [hcb,bR_len,bR_at,bR_rest,bR_set,hlr,hg1,hg3,hsw,hbl,hb0,hql,w6,w7,w8,Int.toNat_natCast,td,reduceCtorEq]
     refine ⟨⟨by omega,by omega,by omega,by omega,by omega⟩,q+1,by omega,by omega,rfl,?_⟩
     show _=bR k (maxI _ _) rest
     unfold maxI
     rw [Int.toNat_natCast]
    ·have hcb:¬ ((k+1+q:Nat):Int)≤(b:Int):=by omega
     dsimp only [z49_3,z49_3d]
     simp only [↓hcsGr,entRctR,entWorst,entHigh,hcb,w3,go_sem,Nat.reduceAdd,Nat.reduceSub,Nat.reduceMul,Nat.reduceLT,Nat.reduceLeDiff,Nat.reduceEqDiff,Nat.reduceBEq,Nat.reduceBNe,List.reduceReplicate,reduceIte,reduceCtorEq,↓reduceIte]
     try simp only [hcb,w3,td,reduceCtorEq]
     obtain rfl:q=b - k:=by omega
     refine ⟨i+1,by omega,⟨hi',fun q hq e=>?_⟩,rfl,?_⟩
     ·by_cases c:q=i
      ·subst c
       rw [hS]
       exact hla
      ·exact hm q (by omega) e
     ·rw [hts,List.foldl_append,hA]
      show _=bR k (rF (W,L,R) k rest acc ((k:Int),(b:Int),d)) rest
      rw [hrf]
   ·dsimp only [z49_2,z49_2d]
    simp only [↓hcsGr,entRctR,entWorst,entHigh,hi',hS,hA,hak,w3,hlr,Int.toNat_natCast,go_sem,Nat.reduceAdd,Nat.reduceSub,Nat.reduceMul,Nat.reduceLT,Nat.reduceLeDiff,Nat.reduceEqDiff,Nat.reduceBEq,Nat.reduceBNe,List.reduceReplicate,reduceIte,reduceCtorEq,↓reduceIte]
    try simp only [hi',hS,hA,hak,w3,hlr,Int.toNat_natCast,td,reduceCtorEq]
    refine ⟨i+1,by omega,⟨hi',fun q hq e=>?_⟩,rfl,?_⟩
    ·by_cases c:q=i
     ·subst c
      rw [hS] at e
      exact absurd e hak
     ·exact hm q (by omega) e
    ·rw [hts,List.foldl_append,hA]
     show _=bR k (rF (W,L,R) k rest acc (a,b,d)) rest
     unfold rF
     rw [if_neg hak]
  ·dsimp only [z49_2,z49_2d]
   simp only [↓hcsGr,entRctR,entWorst,entHigh,hi',go_sem,Nat.reduceAdd,Nat.reduceSub,Nat.reduceMul,Nat.reduceLT,Nat.reduceLeDiff,Nat.reduceEqDiff,Nat.reduceBEq,Nat.reduceBNe,List.reduceReplicate,reduceIte,reduceCtorEq,↓reduceIte]
   try simp only [hi',td,reduceCtorEq]
   refine ⟨k,by omega,⟨by omega,fun r hrm hle=>?_⟩,i64_in _ (by omega),?_⟩
   ·by_cases c:r.1=k
    ·obtain ⟨q,hq,rfl⟩:=List.getElem_of_mem hrm
     have e:R.getD q (0,0,0)=R[q]:=by simp [List.getD,hq]
     have:=hm q (by omega)
     rw [e] at this
     exact this c
    ·exact hnl r hrm (by omega)
   ·rw [hstep,aR_bR,List.take_of_length_le (by omega)]
    rfl
 | zero =>
  have e10:¬ (((0:Nat):Int) - 1) ≥ 0:=by decide
  dsimp only [z49_1,z49_1d]
  simp only [↓hcsGr,entRctR,entWorst,entHigh,e10,aR_zero,go_sem,Nat.reduceAdd,Nat.reduceSub,Nat.reduceMul,Nat.reduceLT,Nat.reduceLeDiff,Nat.reduceEqDiff,Nat.reduceBEq,Nat.reduceBNe,List.reduceReplicate,reduceIte,reduceCtorEq,↓reduceIte]
  try simp only [e10,aR_zero,td,reduceCtorEq]
  have hnl2:∀ r ∈ R,lateR (W,L,R) r=false:=fun r hrm=>hnl r hrm (by
   have:=(rightC_iff.1 hr).2.2.2 r hrm
   dsimp only at this
   show (0:Int)≤r.1
   omega)
  rw [Nat.sub_zero] at hG
  have hfit:fitsG (W,L,R) rest=true:=by rw [← hG];exact gs_fits hr hnl2
  have hwf:worstF (W,L,R) rest=(playF rest (highsF L),0):=by unfold worstF;rw [if_pos hfit]
  have hgu:guardF (W,L,R)=if inTime (W,L,R) (playF rest (highsF L))=false then ([],20) else (rest,0):=by
   unfold guardF
   rw [if_neg (by rw [hr];simp),if_neg (fun z=>by obtain ⟨r,h1,h2⟩:=late_any.1 z;rw [hnl2 r h1] at h2;cases h2)]
   dsimp only
   rw [hG]
  have hpl:(playF rest (highsF L)).length=W.length:=by rw [playF_len,highs_len];omega
  refine XW_top (XW_frz 8 1006 rfl rfl (XW_of ?_))
  simp only [↓hcsGr,entRctR,entWorst,entHigh,hwf,go_sem,Nat.reduceAdd,Nat.reduceSub,Nat.reduceMul,Nat.reduceLT,Nat.reduceLeDiff,Nat.reduceEqDiff,Nat.reduceBEq,Nat.reduceBNe,List.reduceReplicate,reduceIte,reduceCtorEq,↓reduceIte]
  try simp only [td,reduceCtorEq]
  generalize hP:playF rest (highsF L)=P at hgu hpl
  refine XW_for 5000 z49_4d [0] Nat (fun i=>[(119,.val (.int .i64) (i:Int))]) (fun _=>[]) (fun i=>i≤P.length∧∀ q,q < i→P.getD q 0≤(W.getD q (0,0)).2) (fun i=>P.length - i) 0 ?_ ?_ ?_
  ·dsimp only [z49_4d]
   simp only [go_sem,Nat.reduceAdd,Nat.reduceSub,Nat.reduceMul,Nat.reduceLT,Nat.reduceLeDiff,Nat.reduceEqDiff,Nat.reduceBEq,Nat.reduceBNe,List.reduceReplicate,reduceIte,reduceCtorEq,↓reduceIte]
   try trivial
  ·exact ⟨Nat.zero_le _,fun q hq=>absurd hq (Nat.not_lt_zero _)⟩
  rintro i ⟨hi,hm⟩
  have w3:i < P.length→IntKind.i64.wrap ((i:Int)+1)=((i+1:Nat):Int):=fun _=>i64_in _ (by omega)
  dsimp only [z49_4,z49_4d]
  simp only [↓hcsGr,entRctR,entWorst,entHigh,go_sem,Nat.reduceAdd,Nat.reduceSub,Nat.reduceMul,Nat.reduceLT,Nat.reduceLeDiff,Nat.reduceEqDiff,Nat.reduceBEq,Nat.reduceBNe,List.reduceReplicate,reduceIte,reduceCtorEq,↓reduceIte]
  try simp only [td,reduceCtorEq]
  refine ⟨fun hi'=>⟨hi',by omega,fun h=>?_,fun h=>⟨i+1,by omega,⟨hi',fun q hq=>?_⟩,w3 hi'⟩⟩,fun hi'=>?_⟩
  ·rw [hgu,if_pos]
   rw [← Bool.not_eq_true]
   intro q
   have:=inTime_iff.1 q i hi'
   dsimp only at this
   omega
  ·by_cases c:q=i
   ·subst c;exact h
   ·exact hm q (by omega)
  ·rw [hgu,if_neg]
   rw [inTime_iff.2 fun q hq=>hm q (by omega)]
   simp
end T
end Go.Proofs.YtecdcopihghnaaaGreat
end
section
namespace Go.Proofs.YtecdcopihghnaaaGreat
set_option linter.unusedVariables false
set_option linter.unusedSimpArgs false
open Go.RowKit Go.IntWalk
namespace T
theorem sumK_pick {rs:List DReq} {p:Int × Bool}:∀ {L:List (Int × Bool)} {i:Nat},L[i]? = some p→sumK rs (L.map (·.1))=add3 (rl rs p.1) (sumK rs ((L.eraseIdx i).map (·.1)))
 | [],_,h=>by simp at h
 | q :: r,0,h=>by
  simp only [List.getElem?_cons_zero,Option.some.injEq] at h
  subst h;rfl
 | q :: r,i+1,h=>by
  simp only [List.getElem?_cons_succ] at h
  rw [List.map_cons,sumK,sumK_pick h,List.eraseIdx_cons_succ,List.map_cons,sumK,← add3_assoc,add3_comm (rl rs q.1),add3_assoc]
theorem any_pick {α:Type} {f:α→Bool} {p:α}:∀ {L:List α} {i:Nat},L[i]? = some p→f p=false→(L.eraseIdx i).any f=L.any f
 | [],_,h,_=>by simp at h
 | q :: r,0,h,hf=>by
  simp only [List.getElem?_cons_zero,Option.some.injEq] at h
  subst h;simp [hf]
 | q :: r,i+1,h,hf=>by
  simp only [List.getElem?_cons_succ] at h
  rw [List.eraseIdx_cons_succ,List.any_cons,List.any_cons,any_pick h hf]
abbrev DMap:=List (Int × Bool)
def entCLoad:Ent:=⟨177,.cons (.mp .i64 .bool) (.cons (.sl (.st (.cons (.int .i64) (.cons (.int .i64) (.cons (.int .i64) (.cons (.int .i64) (.cons (.int .i64) (.cons (.int .i64) (.cons (.int .i64) (.cons (.int .i64) (.cons (.int .i64) (.int .i64)))))))))))) .nil),(.st (.cons (.int .i64) (.cons (.int .i64) (.int .i64)))),false,none,fun x=>(x.1:DMap).length≤30000∧∀ k ∈ (x.1:DMap),(0≤k.1∧k.1 < (x.2.1:List DReq).length)∧placesB (rl x.2.1 k.1)=true,fun x=>sumK x.2.1 ((x.1:DMap).map (·.1))⟩
def csCl:List Ent:=[entOf] theorem hcsCl (f:FuncId):findEnt csCl f=findEnt [entOf] f:=rfl
theorem conCLoad:Con Tryz.prog entCLoad:=by
 refine con_is (C:=csCl) x177 (by kernel_rfl) (by simp [csCl,conOf]) fun x hx hf=>?_
 obtain ⟨(H:DMap),(rs:List DReq),_⟩:=x
 obtain ⟨hn,hk⟩:=hx
 dsimp only at hn hk
 dsimp only [entCLoad,x177];simp only [↓hcsCl,entOf,go_sem,Nat.reduceAdd,Nat.reduceSub,Nat.reduceMul,Nat.reduceLT,Nat.reduceLeDiff,Nat.reduceEqDiff,Nat.reduceBEq,Nat.reduceBNe,List.reduceReplicate,reduceIte,reduceCtorEq,↓reduceIte];try simp only [td,reduceCtorEq]
 refine XW_for 1000 x177_0d [0] (DMap × DLoad) (fun _=>[])
  (fun s=>[(3,.it .i64 .bool s.1 none),(1,.box 181 [.val (.int .i64) s.2.1,.val (.int .i64) s.2.2.1,.val (.int .i64) s.2.2.2])])
  (fun s=>add3 s.2 (sumK rs (s.1.map (·.1)))=sumK rs (H.map (·.1))∧(∀ k ∈ s.1,k ∈ H)∧s.1.length≤H.length∧(0≤s.2.1∧s.2.1≤60 * (H.length - s.1.length))∧(0≤s.2.2.1∧s.2.2.1≤60 * (H.length - s.1.length))∧0≤s.2.2.2∧s.2.2.2≤60 * (H.length - s.1.length))
  (fun s=>s.1.length) (H,0,0,0) ?_ ?_ ?_
 ·dsimp only [x177_0d]
  simp only [go_sem,Nat.reduceAdd,Nat.reduceSub,Nat.reduceMul,Nat.reduceLT,Nat.reduceLeDiff,Nat.reduceEqDiff,Nat.reduceBEq,Nat.reduceBNe,List.reduceReplicate,reduceIte,reduceCtorEq,↓reduceIte]
  try trivial
 ·exact ⟨zero_add3 _,fun k hk=>hk,Nat.le_refl _,by dsimp only;omega,by dsimp only;omega,by dsimp only;omega⟩
 ·rintro ⟨L,s1,s2,s3⟩ ⟨hs,hL,hlen,hb1,hb2,hb3⟩
  dsimp only at hs hL hlen hb1 hb2 hb3
  dsimp only [x177_0,x177_0d]
  simp only [↓hcsCl,entOf,go_sem,Nat.reduceAdd,Nat.reduceSub,Nat.reduceMul,Nat.reduceLT,Nat.reduceLeDiff,Nat.reduceEqDiff,Nat.reduceBEq,Nat.reduceBNe,List.reduceReplicate,reduceIte,reduceCtorEq,↓reduceIte]
  try simp only [td,reduceCtorEq]
  refine ⟨fun h0=>?_,fun i p hi=>?_⟩
  ·subst h0
   rw [← hs];exact (add3_zero _).symm
  ·have hil:=(List.getElem?_eq_some_iff.1 hi).1
   have hpH:p ∈ H:=hL p (List.mem_of_getElem? hi)
   obtain ⟨hr,hpl⟩:=hk p hpH
   have hpl:=placesB_iff.1 hpl
   unfold rl at hpl
   have hle:(L.eraseIdx i).length=L.length - 1:=List.length_eraseIdx_of_lt hil
   have hpk:=sumK_pick (rs:=rs) hi
   refine ⟨hr,(L.eraseIdx i,add3 (s1,s2,s3) (rl rs p.1)),by rw [hle];omega,⟨?_,fun k hk=>hL k (List.mem_of_mem_eraseIdx hk),by rw [hle];omega,?_⟩,rfl,?_⟩
   ·rw [add3_assoc,← hpk];exact hs
   ·rw [hle]
    unfold add3 rl
    dsimp only [dReq] at hpl ⊢
    omega
   ·unfold add3 rl
    dsimp only [dReq] at hpl ⊢
    exact ⟨i64_in _ (by omega),i64_in _ (by omega),i64_in _ (by omega)⟩
def entCHas:Ent:=⟨146,.cons (.mp .i64 .bool) (.cons (.int .i64) (.cons (.sl (.st (.cons (.int .i64) (.cons (.int .i64) (.cons (.int .i64) (.cons (.int .i64) (.cons (.int .i64) (.cons (.int .i64) (.cons (.int .i64) (.cons (.int .i64) (.cons (.int .i64) (.int .i64)))))))))))) .nil)),.bool,false,none,fun x=>∀ k ∈ (x.1:DMap),(0≤k.1∧k.1 < (x.2.2.1:List DReq).length),fun x=>(x.1:DMap).any fun k=>decide (((x.2.2.1:List DReq).getD k.1.toNat dReq).1=x.2.1)⟩
def csCh:List Ent:=[] theorem hcsCh (f:FuncId):findEnt csCh f=findEnt [] f:=rfl
theorem conCHas:Con Tryz.prog entCHas:=by
 refine con_is (C:=csCh) x146 (by kernel_rfl) (by simp [csCh]) fun x hx hf=>?_
 obtain ⟨(H:DMap),(m:Int),(rs:List DReq),_⟩:=x
 have hx:∀ k ∈ H,(0≤k.1∧k.1 < rs.length):=hx
 dsimp only [entCHas,x146];simp only [↓hcsCh,go_sem,Nat.reduceAdd,Nat.reduceSub,Nat.reduceMul,Nat.reduceLT,Nat.reduceLeDiff,Nat.reduceEqDiff,Nat.reduceBEq,Nat.reduceBNe,List.reduceReplicate,reduceIte,reduceCtorEq,↓reduceIte];try simp only [td,reduceCtorEq]
 refine XW_for 1000 x146_0d [] DMap (fun _=>[]) (fun s=>[(2,.it .i64 .bool s none)])
  (fun s=>(∀ k ∈ s,k ∈ H)∧s.any (fun k=>decide ((rs.getD k.1.toNat dReq).1=m))=H.any fun k=>decide ((rs.getD k.1.toNat dReq).1=m)) (fun s=>s.length) H ?_ ?_ ?_
 ·dsimp only [x146_0d]
  simp only [go_sem,Nat.reduceAdd,Nat.reduceSub,Nat.reduceMul,Nat.reduceLT,Nat.reduceLeDiff,Nat.reduceEqDiff,Nat.reduceBEq,Nat.reduceBNe,List.reduceReplicate,reduceIte,reduceCtorEq,↓reduceIte]
  try trivial
 ·exact ⟨fun k hk=>hk,rfl⟩
 ·rintro L ⟨hL,ha⟩
  dsimp only [x146_0,x146_0d]
  simp only [↓hcsCh,go_sem,Nat.reduceAdd,Nat.reduceSub,Nat.reduceMul,Nat.reduceLT,Nat.reduceLeDiff,Nat.reduceEqDiff,Nat.reduceBEq,Nat.reduceBNe,List.reduceReplicate,reduceIte,reduceCtorEq,↓reduceIte]
  try simp only [td,reduceCtorEq]
  refine ⟨fun h0=>by subst h0;exact ha,fun i p hi=>⟨hx p (hL p (List.mem_of_getElem? hi)),fun q=>?_,fun q=>⟨L.eraseIdx i,?_,⟨fun k hk=>hL k (List.mem_of_mem_eraseIdx hk),?_⟩,rfl⟩⟩⟩
  ·symm
   rw [List.any_eq_true]
   exact ⟨p,hL p (List.mem_of_getElem? hi),decide_eq_true q⟩
  ·have hil:=(List.getElem?_eq_some_iff.1 hi).1
   rw [List.length_eraseIdx_of_lt hil];omega
  ·rw [← ha]
   exact any_pick hi (decide_eq_false q)
end T
end Go.Proofs.YtecdcopihghnaaaGreat
end
section
namespace Go.Proofs.YtecdcopihghnaaaGreat
set_option linter.unusedVariables false
set_option linter.unusedSimpArgs false
open Go.RowKit Go.IntWalk
namespace T
theorem fst_keys (ks:List Int):(ks.map fun k=>(k,true)).map (fun x=>x.fst)=ks:=by rw [List.map_map];exact List.map_id _
theorem nodup_len:∀ {n:Nat} {ks:List Int},ks.Nodup→(∀ k ∈ ks,0≤k∧k < n)→ks.length≤n
 | 0,[],_,_=>Nat.le_refl _
 | 0,k :: r,_,h=>by have:=h k (by simp);omega
 | n+1,ks,hn,h=>by
  have h1:(kdel ks n).length≤n:=nodup_len (kdel_nodup hn) fun k hk=>by
   have:=(mem_kdel hn).1 hk
   have:=h k this.1
   omega
  have h2:∀ (k:Int) (ks:List Int),ks.length≤(kdel ks k).length+1:=fun k ks=>by
   induction ks with
   | nil=>simp
   | cons p r ih=>unfold kdel;split <;> simp <;> omega
  have:=h2 n ks
  omega
theorem look_ok {ss:List DStop} {rs:List DReq} (hr:RightS ss rs) {j:Nat} (hj:j≤ss.length):((cabK ss j).map fun k=>(k,true)).length≤30000∧∀ k ∈ (cabK ss j).map fun k=>(k,true),(0≤k.1∧k.1 < rs.length)∧placesB (rl rs k.1)=true:=by
 obtain ⟨h1,h2⟩:=cab_mem hr hj
 have h3:∀ k ∈ cabK ss j,(0≤k∧k < rs.length)∧placesB (rl rs k)=true:=fun k hk=>hr.in_req ((h2 k).1 hk)
 refine ⟨?_,fun k hk=>?_⟩
 ·rw [List.length_map]
  have:=nodup_len h1 fun k hk=>(h3 k hk).1
  have:=hr.1.2
  omega
 ·obtain ⟨x,hx,rfl⟩:=List.mem_map.1 hk
  exact h3 x hx
def entProf:Ent:=⟨140,.cons (.sl (.st (.cons (.int .i64) .bool))) (.cons (.sl (.st (.cons (.int .i64) (.cons (.int .i64) (.cons (.int .i64) (.cons (.int .i64) (.cons (.int .i64) (.cons (.int .i64) (.cons (.int .i64) (.cons (.int .i64) (.cons (.int .i64) (.int .i64)))))))))))) .nil),.cons (.sl (.st (.cons (.int .i64) (.cons (.int .i64) (.int .i64))))) (.cons (.int .i64) .nil),true,none,fun _=>True,fun x=>((profF x.1 x.2.1).1,(profF x.1 x.2.1).2,())⟩
def csPrf:List Ent:=[entRightS,entCLoad] theorem hcsPrf (f:FuncId):findEnt csPrf f=findEnt [entRightS,entCLoad] f:=rfl
theorem conProf:Con Tryz.prog entProf:=by
 refine con_is (C:=csPrf) x140 (by kernel_rfl) (by simp [csPrf,conRightS,conCLoad]) fun x hx hf=>?_
 obtain ⟨(ss:List DStop),(rs:List DReq),_⟩:=x
 have hl:ss.length≤9223372036854775807:=hf.1.1
 dsimp only [entProf,x140,x175,x179,x180,x176]
 simp only [↓hcsPrf,entRightS,entCLoad,go_sem,Nat.reduceAdd,Nat.reduceSub,Nat.reduceMul,Nat.reduceLT,Nat.reduceLeDiff,Nat.reduceEqDiff,Nat.reduceBEq,Nat.reduceBNe,List.reduceReplicate,reduceIte,reduceCtorEq,↓reduceIte];try simp only [td,reduceCtorEq]
 refine ⟨fun h=>by unfold profF;rw [if_neg (by rw [h];simp)],fun h=>?_⟩
 have hr:RightS ss rs:=of_decide_eq_true h
 have hl:ss.length≤80:=hr.1.1
 have hrl:rs.length≤30000:=hr.1.2
 refine XW_for 1000 x179_0d [0,1,9] Nat (fun j=>[(11,.val (.int .i64) (j:Int))]) (fun j=>[(12,.mp .i64 .bool ((dropsK (ss.take j)).map fun k=>(k,true)))])
  (fun j=>j≤ss.length) (fun j=>ss.length - j) 0 ?_ ?_ ?_
 ·dsimp only [x179_0d]
  simp only [go_sem,Nat.reduceAdd,Nat.reduceSub,Nat.reduceMul,Nat.reduceLT,Nat.reduceLeDiff,Nat.reduceEqDiff,Nat.reduceBEq,Nat.reduceBNe,List.reduceReplicate,reduceIte,reduceCtorEq,↓reduceIte]
  try trivial
 ·exact Nat.zero_le _
 ·rintro j hj
  dsimp only [x179_0,x179_0d]
  simp only [↓hcsPrf,entRightS,entCLoad,go_sem,Nat.reduceAdd,Nat.reduceSub,Nat.reduceMul,Nat.reduceLT,Nat.reduceLeDiff,Nat.reduceEqDiff,Nat.reduceBEq,Nat.reduceBNe,List.reduceReplicate,reduceIte,reduceCtorEq,↓reduceIte]
  try simp only [td,reduceCtorEq]
  by_cases hj':j < ss.length
  ·have w2:IntKind.i64.wrap ((j:Int)+1)=((j+1:Nat):Int):=i64_in _ (by omega)
   have hd:=dropsK_next hj'
   dsimp only [dStop] at hd
   simp only [hj',w2,mset_keys,td,reduceCtorEq]
   refine ⟨fun q=>⟨j+1,by omega,hj',rfl,?_⟩,fun q=>⟨j+1,by omega,hj',rfl,?_⟩⟩
   ·rw [hd,dropK,if_neg (by rw [q];simp)]
   ·rw [hd,dropK,if_pos q]
  obtain rfl:j=ss.length:=by omega
  rw [List.take_of_length_le (Nat.le_refl _)]
  simp only [hj',td,reduceCtorEq]
  refine XW_for 2000 x179_1d [0,1,9] Nat (fun j=>[(24,.val (.int .i64) (j:Int))]) (fun j=>[(12,.mp .i64 .bool ((firstK ss (ss.take j)).map fun k=>(k,true)))])
   (fun j=>j≤ss.length) (fun j=>ss.length - j) 0 ?_ ?_ ?_
  ·dsimp only [x179_1d]
   simp only [go_sem,Nat.reduceAdd,Nat.reduceSub,Nat.reduceMul,Nat.reduceLT,Nat.reduceLeDiff,Nat.reduceEqDiff,Nat.reduceBEq,Nat.reduceBNe,List.reduceReplicate,reduceIte,reduceCtorEq,↓reduceIte]
   try trivial
  ·exact Nat.zero_le _
  ·rintro j hj
   dsimp only [x179_1,x179_1d]
   simp only [↓hcsPrf,entRightS,entCLoad,go_sem,Nat.reduceAdd,Nat.reduceSub,Nat.reduceMul,Nat.reduceLT,Nat.reduceLeDiff,Nat.reduceEqDiff,Nat.reduceBEq,Nat.reduceBNe,List.reduceReplicate,reduceIte,reduceCtorEq,↓reduceIte]
   try simp only [td,reduceCtorEq]
   by_cases hj':j < ss.length
   ·have w2:IntKind.i64.wrap ((j:Int)+1)=((j+1:Nat):Int):=i64_in _ (by omega)
    have hd:=firstK_next (ss:=ss) hj'
    dsimp only [dStop] at hd
    simp only [hj',w2,mdel_keys,td,reduceCtorEq]
    refine ⟨fun q=>⟨j+1,by omega,hj',rfl,?_⟩,fun q=>⟨j+1,by omega,hj',rfl,?_⟩⟩
    ·rw [hd,pickK,if_pos q]
    ·rw [hd,pickK,if_neg (by rw [q];simp)]
   obtain rfl:j=ss.length:=by omega
   rw [List.take_of_length_le (Nat.le_refl _)]
   simp only [hj',fst_keys,td,reduceCtorEq]
   have hlook:∀ j,j≤ss.length→((cabK ss j).map fun k=>(k,true)).length≤30000∧∀ k ∈ (cabK ss j).map fun k=>(k,true),(0≤k.1∧k.1 < rs.length)∧placesB (rl rs k.1)=true:=fun j hj=>look_ok hr hj
   refine ⟨hlook 0 (Nat.zero_le _),?_⟩
   refine XW_for 3000 x175_0d [0,1,9] Nat (fun j=>[(17,.val (.int .i64) (j:Int)),(6,.own 2011)])
    (fun j=>[(2011,.row 181 (.st (.cons (.int .i64) (.cons (.int .i64) (.int .i64)))) ((List.range (j+1)).map fun i=>sumK rs (cabK ss i))),(12,.mp .i64 .bool ((cabK ss j).map fun k=>(k,true)))]) (fun j=>j≤ss.length) (fun j=>ss.length - j) 0 ?_ ?_ ?_
   ·dsimp only [x175_0d]
    simp only [go_sem,Nat.reduceAdd,Nat.reduceSub,Nat.reduceMul,Nat.reduceLT,Nat.reduceLeDiff,Nat.reduceEqDiff,Nat.reduceBEq,Nat.reduceBNe,List.reduceReplicate,reduceIte,reduceCtorEq,↓reduceIte]
    exact ⟨rfl,rfl,rfl⟩
   ·exact Nat.zero_le _
   ·rintro j hj
    dsimp only [x175_0,x175_0d,x180,x176]
    simp only [↓hcsPrf,entRightS,entCLoad,go_sem,Nat.reduceAdd,Nat.reduceSub,Nat.reduceMul,Nat.reduceLT,Nat.reduceLeDiff,Nat.reduceEqDiff,Nat.reduceBEq,Nat.reduceBNe,List.reduceReplicate,reduceIte,reduceCtorEq,↓reduceIte]
    try simp only [mset_keys,mdel_keys,fst_keys,td,reduceCtorEq]
    have w2:j < ss.length→IntKind.i64.wrap ((j:Int)+1)=((j+1:Nat):Int):=fun h=>i64_in _ (by omega)
    have hlen:(((List.range (j+1)).map fun i=>sumK rs (cabK ss i)).length+1) * 24≤140737488355328:=by rw [List.length_map,List.length_range];omega
    have hsucc:(List.range (j+1+1)).map (fun i=>sumK rs (cabK ss i))=(List.range (j+1)).map (fun i=>sumK rs (cabK ss i)) ++ [sumK rs (cabK ss (j+1))]:=by rw [List.range_succ,List.map_append];rfl
    have hst:cabK ss (j+1)=stopK (cabK ss j) (ss.getD j (0,false)):=rfl
    refine ⟨fun hj'=>⟨hj',fun q=>?_,fun q=>?_⟩,fun hj'=>?_⟩
    ·rw [stopK,if_pos q] at hst
     rw [← hst]
     exact ⟨hlook (j+1) hj',hlen,j+1,by omega,hj',w2 hj',hsucc.symm,rfl⟩
    ·rw [stopK,if_neg (by rw [q];simp)] at hst
     rw [← hst]
     exact ⟨hlook (j+1) hj',hlen,j+1,by omega,hj',w2 hj',hsucc.symm,rfl⟩
    ·obtain rfl:j=ss.length:=by omega
     unfold profF
     rw [if_pos h]
     unfold loadsF
     have:(List.range (ss.length+1)).map (fun i=>sumK rs (cabK ss i))=(List.range (ss.length+1)).map fun j=>afterF ss rs (j:Nat):=List.map_congr_left fun i hi=>cab_load hr (by rw [List.mem_range] at hi;omega)
     rw [this]
end T
end Go.Proofs.YtecdcopihghnaaaGreat
end
section
namespace Go.Proofs.YtecdcopihghnaaaGreat
set_option linter.unusedVariables false
set_option linter.unusedSimpArgs false
open Go.RowKit Go.IntWalk
namespace T
def entIxf:Ent:=⟨142,.cons (.sl (.st (.cons (.int .i64) (.cons (.int .i64) (.int .i64))))) (.cons (.fn (.st (.cons (.int .i64) (.cons (.int .i64) (.int .i64)))) .bool) .nil),(.int .i64),false,none,fun _=>True,fun x=>idxF (x.2.1:DLoad→Bool) (x.1:List DLoad)⟩
def csIxf:List Ent:=[] theorem hcsIxf (f:FuncId):findEnt csIxf f=findEnt [] f:=rfl
theorem conIxf:Con Tryz.prog entIxf:=by
 refine con_is (C:=csIxf) x142 (by kernel_rfl) (by simp [csIxf]) fun x hx hf=>?_
 obtain ⟨(l:List DLoad),(F:DLoad→Bool),_⟩:=x
 have hl:l.length≤9223372036854775807:=hf.1.1
 dsimp only [entIxf,x142];simp only [↓hcsIxf,go_sem,Nat.reduceAdd,Nat.reduceSub,Nat.reduceMul,Nat.reduceLT,Nat.reduceLeDiff,Nat.reduceEqDiff,Nat.reduceBEq,Nat.reduceBNe,List.reduceReplicate,reduceIte,reduceCtorEq,↓reduceIte];try simp only [td,reduceCtorEq]
 refine XW_for 1000 x142_0d [] Nat (fun j=>[(8,.val (.int .i64) (j:Int))]) (fun _=>[]) (fun j=>j≤l.length∧∀ i,i < j→F (l.getD i (0,0,0))=false) (fun j=>l.length - j) 0 ?_ ?_ ?_
 ·dsimp only [x142_0d]
  simp only [go_sem,Nat.reduceAdd,Nat.reduceSub,Nat.reduceMul,Nat.reduceLT,Nat.reduceLeDiff,Nat.reduceEqDiff,Nat.reduceBEq,Nat.reduceBNe,List.reduceReplicate,reduceIte,reduceCtorEq,↓reduceIte]
  try rfl
 ·exact ⟨Nat.zero_le _,fun i hi=>by omega⟩
 ·rintro j ⟨hj,hn⟩
  dsimp only [x142_0,x142_0d]
  simp only [↓hcsIxf,go_sem,Nat.reduceAdd,Nat.reduceSub,Nat.reduceMul,Nat.reduceLT,Nat.reduceLeDiff,Nat.reduceEqDiff,Nat.reduceBEq,Nat.reduceBNe,List.reduceReplicate,reduceIte,reduceCtorEq,↓reduceIte]
  try simp only [td,reduceCtorEq]
  have w2:j < l.length→IntKind.i64.wrap ((j:Int)+1)=((j+1:Nat):Int):=fun h=>i64_in _ (by omega)
  refine ⟨fun hj'=>⟨hj',fun q=>(idxF_at hj' hn q).symm,fun q=>⟨j+1,by omega,⟨hj',fun i hi=>?_⟩,w2 hj'⟩⟩,fun hj'=>(idxF_none fun i hi=>hn i (by omega)).symm⟩
  by_cases c:i=j
  ·subst c;exact q
  ·exact hn i (by omega)
def entOver:Ent:=⟨143,.cons (.st (.cons (.int .i64) (.cons (.int .i64) (.int .i64)))) (.cons (.ptr (.st (.cons (.int .i64) (.cons (.int .i64) (.cons (.int .i64) (.cons (.int .i64) (.cons (.int .i64) (.cons (.int .i64) (.cons (.int .i64) (.cons (.int .i64) (.int .i64))))))))))) .nil),.bool,false,none,fun _=>True,fun x=>overB x.1 (carLoad x.2.1)⟩
def csOv:List Ent:=[] theorem hcsOv (f:FuncId):findEnt csOv f=findEnt [] f:=rfl
theorem conOver:Con Tryz.prog entOver:=by
 refine con_is (C:=csOv) x143 (by kernel_rfl) (by simp [csOv]) fun x hx hf=>?_
 obtain ⟨⟨(a:Int),(b:Int),(c:Int)⟩,⟨(c1:Int),(c2:Int),(c3:Int),(c4:Int),(c5:Int),(c6:Int),(c7:Int),(c8:Int),(c9:Int)⟩,_⟩:=x
 dsimp only [entOver,x143];simp only [↓hcsOv,go_sem,Nat.reduceAdd,Nat.reduceSub,Nat.reduceMul,Nat.reduceLT,Nat.reduceLeDiff,Nat.reduceEqDiff,Nat.reduceBEq,Nat.reduceBNe,List.reduceReplicate,reduceIte,reduceCtorEq,↓reduceIte];try simp only [td,reduceCtorEq]
 unfold overB carLoad
 rw [Bool.or_assoc]
def entFits:Ent:=⟨83,.cons (.st (.cons (.int .i64) (.cons (.int .i64) (.cons (.int .i64) (.cons (.int .i64) (.cons (.int .i64) (.cons (.int .i64) (.cons (.int .i64) (.cons (.int .i64) (.int .i64)))))))))) (.cons (.sl (.st (.cons (.int .i64) .bool))) (.cons (.sl (.st (.cons (.int .i64) (.cons (.int .i64) (.cons (.int .i64) (.cons (.int .i64) (.cons (.int .i64) (.cons (.int .i64) (.cons (.int .i64) (.cons (.int .i64) (.cons (.int .i64) (.int .i64)))))))))))) .nil)),.cons (.int .i64) (.cons (.int .i64) .nil),true,none,fun _=>True,fun x=>((fitsF (carLoad x.1) x.2.1 x.2.2.1).1,(fitsF (carLoad x.1) x.2.1 x.2.2.1).2,())⟩
def csFts:List Ent:=[entProf,entPlaces,entIxf,entOver] theorem hcsFts (f:FuncId):findEnt csFts f=findEnt [entProf,entPlaces,entIxf,entOver] f:=rfl
theorem conFits:Con Tryz.prog entFits:=by
 refine con_is (C:=csFts) x83 (by kernel_rfl) (by simp [csFts,conProf,conPlaces,conIxf,conOver]) fun x hx hf=>?_
 obtain ⟨⟨(c1:Int),(c2:Int),(c3:Int),(c4:Int),(c5:Int),(c6:Int),(c7:Int),(c8:Int),(c9:Int)⟩,(ss:List DStop),(rs:List DReq),_⟩:=x
 dsimp only [entFits,x83];simp only [↓hcsFts,entProf,entPlaces,entIxf,entOver,go_sem,Nat.reduceAdd,Nat.reduceSub,Nat.reduceMul,Nat.reduceLT,Nat.reduceLeDiff,Nat.reduceEqDiff,Nat.reduceBEq,Nat.reduceBNe,List.reduceReplicate,reduceIte,reduceCtorEq,↓reduceIte];try simp only [td,reduceCtorEq]
 refine ⟨fun q=>by rw [fits_bad (c:=carLoad (c1,c2,c3,c4,c5,c6,c7,c8,c9)) q],fun q=>⟨fun z=>by rw [fits_full (c:=carLoad (c1,c2,c3,c4,c5,c6,c7,c8,c9)) q z];rfl,fun z=>by rw [fits_ok (c:=carLoad (c1,c2,c3,c4,c5,c6,c7,c8,c9)) q z]⟩⟩
end T
end Go.Proofs.YtecdcopihghnaaaGreat
end
section
namespace Go.Proofs.YtecdcopihghnaaaGreat
set_option linter.unusedVariables false
set_option linter.unusedSimpArgs false
open Go.RowKit Go.IntWalk
namespace T
theorem look_in {ss:List DStop} {rs:List DReq} (hr:RightS ss rs) {j:Nat} (hj:j≤ss.length):∀ k ∈ (cabK ss j).map fun k=>(k,true),0≤k.1∧k.1 < rs.length:=fun k hk=>by
 obtain ⟨x,hx,rfl⟩:=List.mem_map.1 hk
 exact (hr.in_req (((cab_mem hr hj).2 x).1 hx)).1
theorem any_rides {ss:List DStop} {rs:List DReq} (hr:RightS ss rs) {j:Nat} (hj:j≤ss.length) (m:Int):((cabK ss j).map fun k=>(k,true)).any (fun k=>decide ((rs.getD k.1.toNat dReq).1=m))=ridesB ss rs m j:=by
 rw [Bool.eq_iff_iff]
 unfold ridesB
 simp only [List.any_eq_true,List.mem_map,List.mem_range,Bool.and_eq_true,decide_eq_true_eq]
 constructor
 ·rintro ⟨_,⟨x,hx,rfl⟩,h⟩
  have h2:=((cab_mem hr hj).2 x).1 hx
  have h3:=(hr.in_req h2).1
  refine ⟨x.toNat,by omega,h,?_⟩
  rw [Int.toNat_of_nonneg h3.1];exact h2
 ·rintro ⟨i,hi,h1,h2⟩
  exact ⟨((i:Int),true),⟨i,((cab_mem hr hj).2 i).2 h2,rfl⟩,h1⟩
def entTog:Ent:=⟨84,.cons (.sl (.st (.cons (.int .i64) (.cons (.int .i64) .bool)))) (.cons (.sl (.st (.cons (.int .i64) .bool))) (.cons (.sl (.st (.cons (.int .i64) (.cons (.int .i64) (.cons (.int .i64) (.cons (.int .i64) (.cons (.int .i64) (.cons (.int .i64) (.cons (.int .i64) (.cons (.int .i64) (.cons (.int .i64) (.int .i64)))))))))))) .nil)),.bool,false,none,fun _=>True,fun x=>togF x.1 x.2.1 x.2.2.1⟩
def csTog:List Ent:=[entRightS,entCHas] theorem hcsTog (f:FuncId):findEnt csTog f=findEnt [entRightS,entCHas] f:=rfl
theorem conTog:Con Tryz.prog entTog:=by
 refine con_is (C:=csTog) x84 (by kernel_rfl) (by simp [csTog,conRightS,conCHas]) fun x hx hf=>?_
 obtain ⟨(ps:List DPair),(ss:List DStop),(rs:List DReq),_⟩:=x
 have hpl:ps.length≤9223372036854775807:=hf.1.1
 dsimp only [entTog,x84];simp only [↓hcsTog,entRightS,entCHas,go_sem,Nat.reduceAdd,Nat.reduceSub,Nat.reduceMul,Nat.reduceLT,Nat.reduceLeDiff,Nat.reduceEqDiff,Nat.reduceBEq,Nat.reduceBNe,List.reduceReplicate,reduceIte,reduceCtorEq,↓reduceIte];try simp only [td,reduceCtorEq]
 refine ⟨fun h=>by unfold togF;rw [h];rfl,fun h=>?_⟩
 have hr:RightS ss rs:=of_decide_eq_true h
 have hl:ss.length≤80:=hr.1.1
 refine XW_for 1000 x84_0d [0] Nat (fun j=>[(17,.val (.int .i64) (j:Int))]) (fun j=>[]) (fun n=>n≤ps.length∧∀ i,i < n→pairB ss rs (ps.getD i (0,0,false))=true) (fun j=>ps.length - j) 0 ?_ ?_ ?_
 ·dsimp only [x84_0d]
  simp only [go_sem,Nat.reduceAdd,Nat.reduceSub,Nat.reduceMul,Nat.reduceLT,Nat.reduceLeDiff,Nat.reduceEqDiff,Nat.reduceBEq,Nat.reduceBNe,List.reduceReplicate,reduceIte,reduceCtorEq,↓reduceIte]
  rfl
 ·exact ⟨Nat.zero_le _,fun i hi=>by omega⟩
 ·rintro n ⟨hn,hok⟩
  by_cases hn':n < ps.length
  case neg =>
   dsimp only [x84_0,x84_0d]
   simp only [↓hcsTog,entRightS,entCHas,go_sem,Nat.reduceAdd,Nat.reduceSub,Nat.reduceMul,Nat.reduceLT,Nat.reduceLeDiff,Nat.reduceEqDiff,Nat.reduceBEq,Nat.reduceBNe,List.reduceReplicate,reduceIte,reduceCtorEq,↓reduceIte]
   simp only [td,reduceCtorEq]
   exact ⟨fun q=>absurd q hn',fun _=>tog_yes h fun i hi=>hok i (by omega)⟩
  have hno:=tog_no (rs:=rs) (ss:=ss) hn'
  have hyes:pairB ss rs (ps.getD n (0,0,false))=true→∀ i,i < n+1→pairB ss rs (ps.getD i (0,0,false))=true:=fun q i hi=>by
   by_cases c:i=n
   ·rw [c];exact q
   ·exact hok i (by omega)
  have wn:IntKind.i64.wrap ((n:Int)+1)=((n+1:Nat):Int):=i64_in _ (by omega)
  generalize hp:ps.getD n (0,0,false)=p at hno hyes
  obtain ⟨pa,pb,pm⟩:=p
  dsimp only [x84_0,x84_0d,x144,x179,x180,x145]
  simp only [↓hcsTog,entRightS,entCHas,h,hn',hp,wn,go_sem,Nat.reduceAdd,Nat.reduceSub,Nat.reduceMul,Nat.reduceLT,Nat.reduceLeDiff,Nat.reduceEqDiff,Nat.reduceBEq,Nat.reduceBNe,List.reduceReplicate,reduceIte,reduceCtorEq,↓reduceIte]
  try simp only [td,reduceCtorEq]
  refine ⟨fun _=>⟨hn',?_⟩,fun q=>absurd hn' q⟩
  refine XW_for 2000 x179_0d [0,1003,1005,1006,1011] Nat (fun j=>[(11,.val (.int .i64) (j:Int))]) (fun j=>[(1014,.mp .i64 .bool ((dropsK (ss.take j)).map fun k=>(k,true)))])
   (fun j=>j≤ss.length) (fun j=>ss.length - j) 0 ?_ ?_ ?_
  ·dsimp only [x179_0d]
   simp only [go_sem,Nat.reduceAdd,Nat.reduceSub,Nat.reduceMul,Nat.reduceLT,Nat.reduceLeDiff,Nat.reduceEqDiff,Nat.reduceBEq,Nat.reduceBNe,List.reduceReplicate,reduceIte,reduceCtorEq,↓reduceIte]
   try trivial
  ·exact Nat.zero_le _
  ·rintro j hj
   dsimp only [x179_0,x179_0d]
   simp only [↓hcsTog,entRightS,entCHas,go_sem,Nat.reduceAdd,Nat.reduceSub,Nat.reduceMul,Nat.reduceLT,Nat.reduceLeDiff,Nat.reduceEqDiff,Nat.reduceBEq,Nat.reduceBNe,List.reduceReplicate,reduceIte,reduceCtorEq,↓reduceIte]
   try simp only [td,reduceCtorEq]
   by_cases hj':j < ss.length
   ·have w2:IntKind.i64.wrap ((j:Int)+1)=((j+1:Nat):Int):=i64_in _ (by omega)
    have hd:=dropsK_next hj'
    dsimp only [dStop] at hd
    simp only [hj',w2,mset_keys,td,reduceCtorEq]
    refine ⟨fun q=>⟨j+1,by omega,hj',rfl,?_⟩,fun q=>⟨j+1,by omega,hj',rfl,?_⟩⟩
    ·rw [hd,dropK,if_neg (by rw [q];simp)]
    ·rw [hd,dropK,if_pos q]
   obtain rfl:j=ss.length:=by omega
   rw [List.take_of_length_le (Nat.le_refl _)]
   simp only [hj',td,reduceCtorEq]
   refine XW_for 3000 x179_1d [0,1003,1005,1006,1011] Nat (fun j=>[(24,.val (.int .i64) (j:Int))]) (fun j=>[(1014,.mp .i64 .bool ((firstK ss (ss.take j)).map fun k=>(k,true)))])
    (fun j=>j≤ss.length) (fun j=>ss.length - j) 0 ?_ ?_ ?_
   ·dsimp only [x179_1d]
    simp only [go_sem,Nat.reduceAdd,Nat.reduceSub,Nat.reduceMul,Nat.reduceLT,Nat.reduceLeDiff,Nat.reduceEqDiff,Nat.reduceBEq,Nat.reduceBNe,List.reduceReplicate,reduceIte,reduceCtorEq,↓reduceIte]
    try trivial
   ·exact Nat.zero_le _
   ·rintro j hj
    dsimp only [x179_1,x179_1d]
    simp only [↓hcsTog,entRightS,entCHas,go_sem,Nat.reduceAdd,Nat.reduceSub,Nat.reduceMul,Nat.reduceLT,Nat.reduceLeDiff,Nat.reduceEqDiff,Nat.reduceBEq,Nat.reduceBNe,List.reduceReplicate,reduceIte,reduceCtorEq,↓reduceIte]
    try simp only [td,reduceCtorEq]
    by_cases hj':j < ss.length
    ·have w2:IntKind.i64.wrap ((j:Int)+1)=((j+1:Nat):Int):=i64_in _ (by omega)
     have hd:=firstK_next (ss:=ss) hj'
     dsimp only [dStop] at hd
     simp only [hj',w2,mdel_keys,td,reduceCtorEq]
     refine ⟨fun q=>⟨j+1,by omega,hj',rfl,?_⟩,fun q=>⟨j+1,by omega,hj',rfl,?_⟩⟩
     ·rw [hd,pickK,if_pos q]
     ·rw [hd,pickK,if_neg (by rw [q];simp)]
    obtain rfl:j=ss.length:=by omega
    rw [List.take_of_length_le (Nat.le_refl _)]
    simp only [hj',td,reduceCtorEq]
    have hri0:∀ m,((firstK ss ss).map fun k=>(k,true)).any (fun k=>decide ((rs.getD k.1.toNat dReq).1=m))=ridesB ss rs m 0:=fun m=>any_rides hr (Nat.zero_le _) m
    have hlk0:=(look_in hr (Nat.zero_le _):∀ k ∈ (cabK ss 0).map fun k=>(k,true),0≤k.1∧k.1 < rs.length)
    dsimp only [dReq] at hri0
    simp only [hri0]
    refine ⟨hlk0,?_⟩
    refine XW_for 4000 x144_0d [0,1003,1011] (Nat × List Bool) (fun s=>[(17,.val (.int .i64) (s.1:Int)),(6,.own 3037)])
     (fun s=>[(3037,.row 4 .bool s.2),(1006,.box 4 [.val .bool (bothTo ss rs (pa,pb,pm) (s.1+1))]),(1005,.box 4 [.val .bool (someTo ss rs (pa,pb,pm) (s.1+1))]),(1014,.mp .i64 .bool ((cabK ss s.1).map fun k=>(k,true)))]) (fun s=>s.1≤ss.length∧s.2.length=s.1+1) (fun s=>ss.length - s.1) (0,[ridesB ss rs pa 0 && ridesB ss rs pb 0]) ?_ ?_ ?_
    ·dsimp only [x144_0d]
     simp only [go_sem,Nat.reduceAdd,Nat.reduceSub,Nat.reduceMul,Nat.reduceLT,Nat.reduceLeDiff,Nat.reduceEqDiff,Nat.reduceBEq,Nat.reduceBNe,List.reduceReplicate,reduceIte,reduceCtorEq,↓reduceIte]
     have e1:(ridesB ss rs pa 0 && ridesB ss rs pb 0)=bothTo ss rs (pa,pb,pm) 1:=by rw [bothTo_next];rfl
     have e2:(ridesB ss rs pa 0 || ridesB ss rs pb 0)=someTo ss rs (pa,pb,pm) 1:=by rw [someTo_next];rfl
     exact ⟨rfl,e1,e2,rfl⟩
    ·exact ⟨Nat.zero_le _,rfl⟩
    ·rintro ⟨j,O⟩ ⟨hj,hO⟩
     dsimp only at hj hO
     have e1:=someTo_next ss rs (pa,pb,pm) (j+1)
     have e2:=bothTo_next ss rs (pa,pb,pm) (j+1)
     dsimp only [x144_0,x144_0d,x180,x145]
     simp only [↓hcsTog,entRightS,entCHas,go_sem,Nat.reduceAdd,Nat.reduceSub,Nat.reduceMul,Nat.reduceLT,Nat.reduceLeDiff,Nat.reduceEqDiff,Nat.reduceBEq,Nat.reduceBNe,List.reduceReplicate,reduceIte,reduceCtorEq,↓reduceIte]
     try simp only [mset_keys,mdel_keys,td,reduceCtorEq]
     have w2:j < ss.length→IntKind.i64.wrap ((j:Int)+1)=((j+1:Nat):Int):=fun h=>i64_in _ (by omega)
     have hst:cabK ss (j+1)=stopK (cabK ss j) (ss.getD j (0,false)):=rfl
     have hpair:pairB ss rs (pa,pb,pm)=if pm=true then !someB ss rs (pa,pb,pm) || bothB ss rs (pa,pb,pm) else !bothB ss rs (pa,pb,pm):=rfl
     refine ⟨fun hj'=>⟨hj',fun q=>?_,fun q=>?_⟩,fun hj'=>?_⟩
     ·rw [stopK,if_pos q] at hst
      rw [← hst]
      simp only [any_rides hr (show j+1≤ss.length from hj')]
      exact ⟨look_in hr hj',fun z=>⟨z,fun y=>⟨z,y⟩⟩,by omega,(j+1,O ++ [bothTo ss rs (pa,pb,pm) (j+1) || ridesB ss rs pa (j+1) && ridesB ss rs pb (j+1)]),by dsimp only;omega,⟨hj',by rw [List.length_append,hO];rfl⟩,w2 hj',rfl,e2.symm,e1.symm,rfl⟩
     ·rw [stopK,if_neg (by rw [q];simp)] at hst
      rw [← hst]
      simp only [any_rides hr (show j+1≤ss.length from hj')]
      exact ⟨look_in hr hj',fun z=>⟨z,fun y=>⟨z,y⟩⟩,by omega,(j+1,O ++ [bothTo ss rs (pa,pb,pm) (j+1) || ridesB ss rs pa (j+1) && ridesB ss rs pb (j+1)]),by dsimp only;omega,⟨hj',by rw [List.length_append,hO];rfl⟩,w2 hj',rfl,e2.symm,e1.symm,rfl⟩
     ·obtain rfl:j=ss.length:=by omega
      have e3:someTo ss rs (pa,pb,pm) (ss.length+1)=someB ss rs (pa,pb,pm):=rfl
      have e4:bothTo ss rs (pa,pb,pm) (ss.length+1)=bothB ss rs (pa,pb,pm):=rfl
      rw [e3,e4]
      generalize someB ss rs (pa,pb,pm)=sm at hpair ⊢
      generalize bothB ss rs (pa,pb,pm)=bt at hpair ⊢
      refine ⟨fun q=>⟨q,fun z=>⟨q,z⟩⟩,fun q=>hno ?_,fun q=>⟨n+1,by omega,⟨hn',hyes ?_⟩,wn⟩⟩
      ·rw [hpair]
       cases pm <;> cases bt <;> cases sm <;> simp_all
      ·rw [hpair]
       cases pm <;> cases bt <;> cases sm <;> simp_all
end T
end Go.Proofs.YtecdcopihghnaaaGreat
end
section
namespace Go.Proofs.YtecdcopihghnaaaGreat
set_option linter.unusedVariables false
set_option linter.unusedSimpArgs false
open Go.RowKit Go.IntWalk
namespace T
def begF (w:DWorld) (c:Int) (ss:List DStop):DChain × Int :=
 if asksF w c ss=false then (noChain,1) else if (fitsF (carLoad (carAt w c)) ss w.2.2.2.1).2≠0 then (noChain,27) else if togF w.2.2.2.2.1 ss w.2.2.2.1=false then (noChain,30) else chainF w c ss
def entBeg:Ent:=⟨36,.cons (.st (.cons (.int .i64) (.cons (.sl (.st (.cons (.int .i64) (.cons (.int .i64) (.cons (.sl (.int .i64)) (.sl (.int .i64))))))) (.cons (.sl (.st (.cons (.int .i64) (.cons (.int .i64) (.cons (.int .i64) (.cons (.int .i64) (.cons (.int .i64) (.cons (.int .i64) (.cons (.int .i64) (.cons (.int .i64) (.int .i64))))))))))) (.cons (.sl (.st (.cons (.int .i64) (.cons (.int .i64) (.cons (.int .i64) (.cons (.int .i64) (.cons (.int .i64) (.cons (.int .i64) (.cons (.int .i64) (.cons (.int .i64) (.cons (.int .i64) (.int .i64)))))))))))) (.cons (.sl (.st (.cons (.int .i64) (.cons (.int .i64) .bool)))) (.st (.cons (.int .i64) (.cons (.int .i64) (.int .i64)))))))))) (.cons (.int .i64) (.cons (.sl (.st (.cons (.int .i64) .bool))) .nil)),.cons (.st (.cons (.sl (.st (.cons (.int .i64) (.int .i64)))) (.cons (.sl (.st (.cons (.int .i64) (.int .i64)))) (.sl (.st (.cons (.int .i64) (.cons (.int .i64) (.int .i64)))))))) (.cons (.int .i64) .nil),true,none,fun x=>List.length (α:=DStop) x.2.2.1≤24,fun x=>((begF x.1 x.2.1 x.2.2.1).1,(begF x.1 x.2.1 x.2.2.1).2,())⟩
def csBeg:List Ent:=[entAsk,entFits,entTog,entChn] theorem hcsBeg (f:FuncId):findEnt csBeg f=findEnt [entAsk,entFits,entTog,entChn] f:=rfl
theorem conBeg:Con Tryz.prog entBeg:=by
 refine con_is (C:=csBeg) x36 (by kernel_rfl) (by simp [csBeg,conAsk,conFits,conTog,conChn]) fun x hx hf=>?_
 obtain ⟨⟨(N:Int),(A:List DArc),(C:List DCar),(Q:List DReq),(P:List DPair),(S1:Int),(S2:Int),(S3:Int)⟩,(c:Int),(ss:List DStop),_⟩:=x
 replace hx:ss.length≤24:=hx
 cases ha:asksF (N,A,C,Q,P,S1,S2,S3) c ss with
 | false =>
  have hz:begF (N,A,C,Q,P,S1,S2,S3) c ss=(([],[],[]),1):=by unfold begF;rw [if_pos ha];rfl
  dsimp only [entBeg,x36];simp only [↓hcsBeg,entAsk,entFits,entTog,entChn,undef,ha,hz,go_sem,Nat.reduceAdd,Nat.reduceSub,Nat.reduceMul,Nat.reduceLT,Nat.reduceLeDiff,Nat.reduceEqDiff,Nat.reduceBEq,Nat.reduceBNe,List.reduceReplicate,reduceIte,reduceCtorEq,↓reduceIte]
  try simp only [ha,hz,td,reduceCtorEq]
 | true =>
  obtain ⟨hw,hc,hss⟩:=asks_iff.1 ha
  dsimp only at hc hss
  obtain ⟨c,rfl⟩:∃ z:Nat,c=z:=⟨c.toNat,by omega⟩
  have hcl:c < C.length:=by omega
  have hca:carAt (N,A,C,Q,P,S1,S2,S3) (c:Int)=C.getD c (0,0,0,0,0,0,0,0,0):=rfl
  have hz:begF (N,A,C,Q,P,S1,S2,S3) c ss=if (fitsF (carLoad (C.getD c (0,0,0,0,0,0,0,0,0))) ss Q).2≠0 then (noChain,27) else if togF P ss Q=false then (noChain,30) else chainF (N,A,C,Q,P,S1,S2,S3) c ss:=by
   unfold begF
   rw [if_neg (by rw [ha];simp),hca]
  dsimp only [entBeg,x36];simp only [↓hcsBeg,entAsk,entFits,entTog,entChn,undef,ha,hcl,hx,Int.toNat_natCast,go_sem,Nat.reduceAdd,Nat.reduceSub,Nat.reduceMul,Nat.reduceLT,Nat.reduceLeDiff,Nat.reduceEqDiff,Nat.reduceBEq,Nat.reduceBNe,List.reduceReplicate,reduceIte,reduceCtorEq,↓reduceIte]
  try simp only [ha,hcl,hx,Int.toNat_natCast,td,reduceCtorEq]
  refine ⟨fun h=>?_,fun h=>⟨fun h2=>?_,fun h2=>?_⟩⟩
  ·rw [hz,if_pos h];rfl
  ·rw [hz,if_neg (fun q=>q h),if_pos h2];rfl
  ·rw [hz,if_neg (fun q=>q h),if_neg (by rw [h2];simp)]
end T
end Go.Proofs.YtecdcopihghnaaaGreat
end
section
namespace Go.Proofs.YtecdcopihghnaaaGreat
set_option linter.unusedVariables false
set_option linter.unusedSimpArgs false
open Go.RowKit Go.IntWalk
namespace T
def entClS:Ent:=⟨50,.cons (.sl (.st (.cons (.int .i64) .bool))) .nil,(.sl (.st (.cons (.int .i64) .bool))),false,none,fun x=>List.length (α:=DStop) x.1≤1000000,fun x=>x.1⟩
def csClS:List Ent:=[] theorem hcsClS (f:FuncId):findEnt csClS f=findEnt [] f:=rfl
theorem conClS:Con Tryz.prog entClS:=by
 refine con_is (C:=csClS) x50 (by kernel_rfl) (by simp [csClS]) fun x hx hf=>?_
 obtain ⟨(S:List DStop),_⟩:=x
 have hS:S.length≤1000000:=hx
 dsimp only [entClS,x50];simp only [↓hcsClS,go_sem,Nat.reduceAdd,Nat.reduceSub,Nat.reduceMul,Nat.reduceLT,Nat.reduceLeDiff,Nat.reduceEqDiff,Nat.reduceBEq,Nat.reduceBNe,List.reduceReplicate,reduceIte,reduceCtorEq,↓reduceIte];try simp only [td,reduceCtorEq]
 exact ⟨fun q=>q.symm,by omega⟩
theorem ext_getD {α:Type} (d:α) {a b:List α} (hl:a.length=b.length) (h:∀ i,i < a.length→a.getD i d=b.getD i d):a=b:=by
 refine List.ext_getElem hl fun i h1 h2=>?_
 have:=h i h1
 simpa [List.getD,h1,h2] using this
def entEqLg:Ent:=⟨37,.cons (.sl (.st (.cons (.int .i64) (.int .i64)))) (.cons (.sl (.st (.cons (.int .i64) (.int .i64)))) .nil),.bool,false,none,fun _=>True,fun x=>decide ((x.1:List DLeg)=x.2.1)⟩
def csEqLg:List Ent:=[] theorem hcsEqLg (f:FuncId):findEnt csEqLg f=findEnt [] f:=rfl
theorem conEqLg:Con Tryz.prog entEqLg:=by
 refine con_is (C:=csEqLg) x37 (by kernel_rfl) (by simp [csEqLg]) fun x hx hf=>?_
 obtain ⟨(a:List DLeg),(b:List DLeg),_⟩:=x
 have hl:a.length≤9223372036854775807:=hf.1.1
 by_cases hab:a.length=b.length
 ·have habi:(a.length:Int)=(b.length:Int):=by omega
  dsimp only [entEqLg,x37];simp only [↓hcsEqLg,habi,go_sem,Nat.reduceAdd,Nat.reduceSub,Nat.reduceMul,Nat.reduceLT,Nat.reduceLeDiff,Nat.reduceEqDiff,Nat.reduceBEq,Nat.reduceBNe,List.reduceReplicate,reduceIte,reduceCtorEq,↓reduceIte]
  try simp only [habi,td,reduceCtorEq]
  refine XW_for 1000 x37_0d [] Nat (fun j=>[(13,.val (.int .i64) (j:Int))]) (fun _=>[]) (fun j=>j≤a.length∧∀ i,i < j→a.getD i (0,0)=b.getD i (0,0)) (fun j=>a.length - j) 0 ?_ ?_ ?_
  ·dsimp only [x37_0d];simp only [go_sem,Nat.reduceAdd,Nat.reduceSub,Nat.reduceMul,Nat.reduceLT,Nat.reduceLeDiff,Nat.reduceEqDiff,Nat.reduceBEq,Nat.reduceBNe,List.reduceReplicate,reduceIte,reduceCtorEq,↓reduceIte];try trivial
  ·exact ⟨Nat.zero_le _,fun i hi=>by omega⟩
  rintro j ⟨hj,hn⟩
  by_cases hja:j < a.length
  ·have hjb:j < b.length:=by omega
   have w2:IntKind.i64.wrap ((j:Int)+1)=((j+1:Nat):Int):=i64_in _ (by omega)
   have hne:a.getD j (0,0)≠b.getD j (0,0)→decide (a=b)=false:=fun h=>decide_eq_false fun z=>h (by rw [z])
   have hnx:a.getD j (0,0)=b.getD j (0,0)→∀ i,i < j+1→a.getD i (0,0)=b.getD i (0,0):=fun h i hi=>by
    rcases Nat.lt_or_ge i j with q | q
    ·exact hn i q
    ·rw [show i=j by omega];exact h
   generalize hA:a.getD j (0,0)=u at hne hnx
   generalize hB:b.getD j (0,0)=v at hne hnx
   obtain ⟨u1,u2⟩:=u
   obtain ⟨v1,v2⟩:=v
   have huv:((u1,u2)=(v1,v2)) ↔ u1=v1∧u2=v2:=Prod.mk.injEq _ _ _ _ ▸ Iff.rfl
   dsimp only [x37_0,x37_0d];simp only [↓hcsEqLg,hja,hjb,w2,hA,hB,habi,go_sem,Nat.reduceAdd,Nat.reduceSub,Nat.reduceMul,Nat.reduceLT,Nat.reduceLeDiff,Nat.reduceEqDiff,Nat.reduceBEq,Nat.reduceBNe,List.reduceReplicate,reduceIte,reduceCtorEq,↓reduceIte]
   try simp only [hja,hjb,w2,hA,hB,habi,td,reduceCtorEq]
   exact ⟨fun h=>(hne (fun q=>h (huv.1 q).1 (huv.1 q).2)).symm,fun h=>⟨j+1,by omega,⟨by omega,hnx (huv.2 h)⟩,rfl⟩⟩
  ·have hjb:¬ j < b.length:=by omega
   have heq:decide (a=b)=true:=decide_eq_true (ext_getD (0,0) hab fun i hi=>hn i (by omega))
   dsimp only [x37_0,x37_0d];simp only [↓hcsEqLg,hja,hjb,habi,heq,go_sem,Nat.reduceAdd,Nat.reduceSub,Nat.reduceMul,Nat.reduceLT,Nat.reduceLeDiff,Nat.reduceEqDiff,Nat.reduceBEq,Nat.reduceBNe,List.reduceReplicate,reduceIte,reduceCtorEq,↓reduceIte]
   try simp only [hja,hjb,habi,heq,td,reduceCtorEq]
 ·have habi:¬ (a.length:Int)=(b.length:Int):=by omega
  have hne:decide (a=b)=false:=decide_eq_false fun z=>hab (by rw [z])
  dsimp only [entEqLg,x37];simp only [↓hcsEqLg,hab,habi,hne,go_sem,Nat.reduceAdd,Nat.reduceSub,Nat.reduceMul,Nat.reduceLT,Nat.reduceLeDiff,Nat.reduceEqDiff,Nat.reduceBEq,Nat.reduceBNe,List.reduceReplicate,reduceIte,reduceCtorEq,↓reduceIte]
  try simp only [hab,habi,hne,td,reduceCtorEq]
def entSmLg:Ent:=⟨18,.cons (.sl (.st (.cons (.int .i64) (.int .i64)))) (.cons (.sl (.st (.cons (.int .i64) (.int .i64)))) .nil),.bool,false,none,fun _=>True,fun x=>decide ((x.1:List DLeg)=x.2.1)⟩
def csSmLg:List Ent:=[] theorem hcsSmLg (f:FuncId):findEnt csSmLg f=findEnt [] f:=rfl
theorem conSmLg:Con Tryz.prog entSmLg:=by
 refine con_is (C:=csSmLg) x18 (by kernel_rfl) (by simp [csSmLg]) fun x hx hf=>?_
 obtain ⟨(a:List DLeg),(b:List DLeg),_⟩:=x
 have hl:a.length≤9223372036854775807:=hf.1.1
 by_cases hab:a.length=b.length
 ·have habi:(a.length:Int)=(b.length:Int):=by omega
  dsimp only [entSmLg,x18];simp only [↓hcsSmLg,habi,go_sem,Nat.reduceAdd,Nat.reduceSub,Nat.reduceMul,Nat.reduceLT,Nat.reduceLeDiff,Nat.reduceEqDiff,Nat.reduceBEq,Nat.reduceBNe,List.reduceReplicate,reduceIte,reduceCtorEq,↓reduceIte]
  try simp only [habi,td,reduceCtorEq]
  refine XW_for 1000 x18_0d [] Nat (fun j=>[(5,.val (.int .i64) (j:Int))]) (fun _=>[]) (fun j=>j≤a.length∧∀ i,i < j→a.getD i (0,0)=b.getD i (0,0)) (fun j=>a.length - j) 0 ?_ ?_ ?_
  ·dsimp only [x18_0d];simp only [go_sem,Nat.reduceAdd,Nat.reduceSub,Nat.reduceMul,Nat.reduceLT,Nat.reduceLeDiff,Nat.reduceEqDiff,Nat.reduceBEq,Nat.reduceBNe,List.reduceReplicate,reduceIte,reduceCtorEq,↓reduceIte];try trivial
  ·exact ⟨Nat.zero_le _,fun i hi=>by omega⟩
  rintro j ⟨hj,hn⟩
  by_cases hja:j < a.length
  ·have hjb:j < b.length:=by omega
   have w2:IntKind.i64.wrap ((j:Int)+1)=((j+1:Nat):Int):=i64_in _ (by omega)
   have hne:a.getD j (0,0)≠b.getD j (0,0)→decide (a=b)=false:=fun h=>decide_eq_false fun z=>h (by rw [z])
   have hnx:a.getD j (0,0)=b.getD j (0,0)→∀ i,i < j+1→a.getD i (0,0)=b.getD i (0,0):=fun h i hi=>by
    rcases Nat.lt_or_ge i j with q | q
    ·exact hn i q
    ·rw [show i=j by omega];exact h
   generalize hA:a.getD j (0,0)=u at hne hnx
   generalize hB:b.getD j (0,0)=v at hne hnx
   obtain ⟨u1,u2⟩:=u
   obtain ⟨v1,v2⟩:=v
   have huv:((u1,u2)=(v1,v2)) ↔ u1=v1∧u2=v2:=Prod.mk.injEq _ _ _ _ ▸ Iff.rfl
   dsimp only [x18_0,x18_0d];simp only [↓hcsSmLg,hja,hjb,w2,hA,hB,habi,go_sem,Nat.reduceAdd,Nat.reduceSub,Nat.reduceMul,Nat.reduceLT,Nat.reduceLeDiff,Nat.reduceEqDiff,Nat.reduceBEq,Nat.reduceBNe,List.reduceReplicate,reduceIte,reduceCtorEq,↓reduceIte]
   try simp only [hja,hjb,w2,hA,hB,habi,td,reduceCtorEq]
   exact ⟨fun h=>(hne (fun q=>h (huv.1 q).1 (huv.1 q).2)).symm,fun h=>⟨j+1,by omega,⟨by omega,hnx (huv.2 h)⟩,rfl⟩⟩
  ·have hjb:¬ j < b.length:=by omega
   have heq:decide (a=b)=true:=decide_eq_true (ext_getD (0,0) hab fun i hi=>hn i (by omega))
   dsimp only [x18_0,x18_0d];simp only [↓hcsSmLg,hja,hjb,habi,heq,go_sem,Nat.reduceAdd,Nat.reduceSub,Nat.reduceMul,Nat.reduceLT,Nat.reduceLeDiff,Nat.reduceEqDiff,Nat.reduceBEq,Nat.reduceBNe,List.reduceReplicate,reduceIte,reduceCtorEq,↓reduceIte]
   try simp only [hja,hjb,habi,heq,td,reduceCtorEq]
 ·have habi:¬ (a.length:Int)=(b.length:Int):=by omega
  have hne:decide (a=b)=false:=decide_eq_false fun z=>hab (by rw [z])
  dsimp only [entSmLg,x18];simp only [↓hcsSmLg,hab,habi,hne,go_sem,Nat.reduceAdd,Nat.reduceSub,Nat.reduceMul,Nat.reduceLT,Nat.reduceLeDiff,Nat.reduceEqDiff,Nat.reduceBEq,Nat.reduceBNe,List.reduceReplicate,reduceIte,reduceCtorEq,↓reduceIte]
  try simp only [hab,habi,hne,td,reduceCtorEq]
def entSmSt:Ent:=⟨17,.cons (.sl (.st (.cons (.int .i64) .bool))) (.cons (.sl (.st (.cons (.int .i64) .bool))) .nil),.bool,false,none,fun _=>True,fun x=>decide ((x.1:List DStop)=x.2.1)⟩
def csSmSt:List Ent:=[] theorem hcsSmSt (f:FuncId):findEnt csSmSt f=findEnt [] f:=rfl
theorem conSmSt:Con Tryz.prog entSmSt:=by
 refine con_is (C:=csSmSt) x17 (by kernel_rfl) (by simp [csSmSt]) fun x hx hf=>?_
 obtain ⟨(a:List DStop),(b:List DStop),_⟩:=x
 have hl:a.length≤9223372036854775807:=hf.1.1
 by_cases hab:a.length=b.length
 ·have habi:(a.length:Int)=(b.length:Int):=by omega
  dsimp only [entSmSt,x17];simp only [↓hcsSmSt,habi,go_sem,Nat.reduceAdd,Nat.reduceSub,Nat.reduceMul,Nat.reduceLT,Nat.reduceLeDiff,Nat.reduceEqDiff,Nat.reduceBEq,Nat.reduceBNe,List.reduceReplicate,reduceIte,reduceCtorEq,↓reduceIte]
  try simp only [habi,td,reduceCtorEq]
  refine XW_for 1000 x17_0d [] Nat (fun j=>[(5,.val (.int .i64) (j:Int))]) (fun _=>[]) (fun j=>j≤a.length∧∀ i,i < j→a.getD i (0,false)=b.getD i (0,false)) (fun j=>a.length - j) 0 ?_ ?_ ?_
  ·dsimp only [x17_0d];simp only [go_sem,Nat.reduceAdd,Nat.reduceSub,Nat.reduceMul,Nat.reduceLT,Nat.reduceLeDiff,Nat.reduceEqDiff,Nat.reduceBEq,Nat.reduceBNe,List.reduceReplicate,reduceIte,reduceCtorEq,↓reduceIte];try trivial
  ·exact ⟨Nat.zero_le _,fun i hi=>by omega⟩
  rintro j ⟨hj,hn⟩
  by_cases hja:j < a.length
  ·have hjb:j < b.length:=by omega
   have w2:IntKind.i64.wrap ((j:Int)+1)=((j+1:Nat):Int):=i64_in _ (by omega)
   have hne:a.getD j (0,false)≠b.getD j (0,false)→decide (a=b)=false:=fun h=>decide_eq_false fun z=>h (by rw [z])
   have hnx:a.getD j (0,false)=b.getD j (0,false)→∀ i,i < j+1→a.getD i (0,false)=b.getD i (0,false):=fun h i hi=>by
    rcases Nat.lt_or_ge i j with q | q
    ·exact hn i q
    ·rw [show i=j by omega];exact h
   generalize hA:a.getD j (0,false)=u at hne hnx
   generalize hB:b.getD j (0,false)=v at hne hnx
   obtain ⟨u1,u2⟩:=u
   obtain ⟨v1,v2⟩:=v
   have huv:((u1,u2)=(v1,v2)) ↔ u1=v1∧u2=v2:=Prod.mk.injEq _ _ _ _ ▸ Iff.rfl
   dsimp only [x17_0,x17_0d];simp only [↓hcsSmSt,hja,hjb,w2,hA,hB,habi,go_sem,Nat.reduceAdd,Nat.reduceSub,Nat.reduceMul,Nat.reduceLT,Nat.reduceLeDiff,Nat.reduceEqDiff,Nat.reduceBEq,Nat.reduceBNe,List.reduceReplicate,reduceIte,reduceCtorEq,↓reduceIte]
   try simp only [hja,hjb,w2,hA,hB,habi,td,reduceCtorEq]
   exact ⟨fun h=>(hne (fun q=>h (huv.1 q).1 (huv.1 q).2)).symm,fun h=>⟨j+1,by omega,⟨by omega,hnx (huv.2 h)⟩,rfl⟩⟩
  ·have hjb:¬ j < b.length:=by omega
   have heq:decide (a=b)=true:=decide_eq_true (ext_getD (0,false) hab fun i hi=>hn i (by omega))
   dsimp only [x17_0,x17_0d];simp only [↓hcsSmSt,hja,hjb,habi,heq,go_sem,Nat.reduceAdd,Nat.reduceSub,Nat.reduceMul,Nat.reduceLT,Nat.reduceLeDiff,Nat.reduceEqDiff,Nat.reduceBEq,Nat.reduceBNe,List.reduceReplicate,reduceIte,reduceCtorEq,↓reduceIte]
   try simp only [hja,hjb,habi,heq,td,reduceCtorEq]
 ·have habi:¬ (a.length:Int)=(b.length:Int):=by omega
  have hne:decide (a=b)=false:=decide_eq_false fun z=>hab (by rw [z])
  dsimp only [entSmSt,x17];simp only [↓hcsSmSt,hab,habi,hne,go_sem,Nat.reduceAdd,Nat.reduceSub,Nat.reduceMul,Nat.reduceLT,Nat.reduceLeDiff,Nat.reduceEqDiff,Nat.reduceBEq,Nat.reduceBNe,List.reduceReplicate,reduceIte,reduceCtorEq,↓reduceIte]
  try simp only [hab,habi,hne,td,reduceCtorEq]
end T
end Go.Proofs.YtecdcopihghnaaaGreat
end
