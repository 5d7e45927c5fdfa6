/- Parts of the proof, merged (by a program): definitions and lemmas for the law; no condition. -/
import Derived.Test.YtjlofnjlhgbmoaaGreatY8
set_option linter.unusedVariables false
set_option linter.unusedSimpArgs false
open Nat renaming reduceAdd → YA, reduceSub → YS, reduceMul → YM, reduceLT → YL, reduceLeDiff → YE, reduceEqDiff → YD, reduceBEq → YB, reduceBNe → YN
open List renaming reduceReplicate → YR
namespace Go.Proofs.YtjlofnjlhgbmoaaGreat
section
open Go.RowKit Go.IntWalk
namespace T
def entIdxFuncWin:Ent:=⟨152,.cons (.sl (.st (.cons (.int .i64) (.int .i64)))) (.cons (.fn (.st (.cons (.int .i64) (.int .i64))) .bool) .nil),(.int .i64),false,none,fun _=>True,fun x=>idxF x.2.1 x.1⟩
theorem conIdxFuncWin:Con Tryz.prog entIdxFuncWin:=by
 refine con_is (C:=[]) x152 (by kernel_rfl) (by simp) fun x _ hf=>?_
 obtain ⟨(xs:List DWin),(p:DWin→Bool),_⟩:=x
 have hl:xs.length≤maxLen:=hf.1.1
 dsimp only [entIdxFuncWin,x152,Zb];simp only [go_sem,YA,YS,YM,YL,YE,YD,YB,YN,YR,reduceIte,reduceCtorEq,↓reduceIte]
 refine XW_for 1000 x152_0d [] Nat (fun k=>[(8,.val (.int .i64) (k:Int))]) (fun _=>[]) (fun k=>k≤xs.length∧∀ j,j < k→p (xs.getD j (0,0))=false) (fun k=>xs.length - k) 0 ?_ ?_ ?_
 ·dsimp only [x152_0d];simp only [go_sem,YA,YS,YM,YL,YE,YD,YB,YN,YR,reduceIte,reduceCtorEq,↓reduceIte]
  rfl
 ·exact ⟨by omega,fun j hj=>by omega⟩
 ·intro k hk
  dsimp only [x152_0,x152_0d,Z2,Za,Zg];simp only [go_sem,YA,YS,YM,YL,YE,YD,YB,YN,YR,reduceIte,reduceCtorEq,↓reduceIte]
  dsimp only [maxLen] at hl
  by_cases hkl:k < xs.length
  ·simp only [hkl,td,reduceCtorEq]
   refine ⟨fun h=>(idxF_at hkl hk.2 h).symm,fun h=>⟨k+1,by omega,⟨by omega,fun j hj=>?_⟩,i64_in _ (by omega)⟩⟩
   rcases Nat.lt_succ_iff_lt_or_eq.1 hj with h' | rfl
   ·exact hk.2 j h'
   ·exact h
  ·simp only [hkl,td,reduceCtorEq]
   exact (idxF_none fun j hj=>hk.2 j (by omega)).symm
def entConFuncWin:Ent:=⟨92,.cons (.sl (.st (.cons (.int .i64) (.int .i64)))) (.cons (.fn (.st (.cons (.int .i64) (.int .i64))) .bool) .nil),.bool,false,none,fun _=>True,fun x=>x.1.any x.2.1⟩
theorem conConFuncWin:Con Tryz.prog entConFuncWin:=by
 refine con_is (C:=[entIdxFuncWin]) x92 (by kernel_rfl) (by simp [conIdxFuncWin]) fun x _ hf=>?_
 obtain ⟨(xs:List DWin),(p:DWin→Bool),_⟩:=x
 dsimp only [entConFuncWin,entIdxFuncWin,x92,Za];simp only [go_sem,YA,YS,YM,YL,YE,YD,YB,YN,YR,reduceIte,reduceCtorEq,↓reduceIte]
 refine eq_of_iff ?_
 rw [← idxF_any]
 simp
def entIdxFuncLeg:Ent:=⟨153,.cons (.sl (.st (.cons (.int .i64) (.int .i64)))) (.cons (.fn (.st (.cons (.int .i64) (.int .i64))) .bool) .nil),(.int .i64),false,none,fun _=>True,fun x=>idxF x.2.1 x.1⟩
theorem conIdxFuncLeg:Con Tryz.prog entIdxFuncLeg:=by
 refine con_is (C:=[]) x153 (by kernel_rfl) (by simp) fun x _ hf=>?_
 obtain ⟨(xs:List DLeg),(p:DLeg→Bool),_⟩:=x
 have hl:xs.length≤maxLen:=hf.1.1
 dsimp only [entIdxFuncLeg,x153,Zb];simp only [go_sem,YA,YS,YM,YL,YE,YD,YB,YN,YR,reduceIte,reduceCtorEq,↓reduceIte]
 refine XW_for 1000 x153_0d [] Nat (fun k=>[(8,.val (.int .i64) (k:Int))]) (fun _=>[]) (fun k=>k≤xs.length∧∀ j,j < k→p (xs.getD j (0,0))=false) (fun k=>xs.length - k) 0 ?_ ?_ ?_
 ·dsimp only [x153_0d];simp only [go_sem,YA,YS,YM,YL,YE,YD,YB,YN,YR,reduceIte,reduceCtorEq,↓reduceIte]
  rfl
 ·exact ⟨by omega,fun j hj=>by omega⟩
 ·intro k hk
  dsimp only [x153_0,x153_0d,Z2,Za,Zg];simp only [go_sem,YA,YS,YM,YL,YE,YD,YB,YN,YR,reduceIte,reduceCtorEq,↓reduceIte]
  dsimp only [maxLen] at hl
  by_cases hkl:k < xs.length
  ·simp only [hkl,td,reduceCtorEq]
   refine ⟨fun h=>(idxF_at hkl hk.2 h).symm,fun h=>⟨k+1,by omega,⟨by omega,fun j hj=>?_⟩,i64_in _ (by omega)⟩⟩
   rcases Nat.lt_succ_iff_lt_or_eq.1 hj with h' | rfl
   ·exact hk.2 j h'
   ·exact h
  ·simp only [hkl,td,reduceCtorEq]
   exact (idxF_none fun j hj=>hk.2 j (by omega)).symm
def entConFuncLeg:Ent:=⟨93,.cons (.sl (.st (.cons (.int .i64) (.int .i64)))) (.cons (.fn (.st (.cons (.int .i64) (.int .i64))) .bool) .nil),.bool,false,none,fun _=>True,fun x=>x.1.any x.2.1⟩
theorem conConFuncLeg:Con Tryz.prog entConFuncLeg:=by
 refine con_is (C:=[entIdxFuncLeg]) x93 (by kernel_rfl) (by simp [conIdxFuncLeg]) fun x _ hf=>?_
 obtain ⟨(xs:List DLeg),(p:DLeg→Bool),_⟩:=x
 dsimp only [entConFuncLeg,entIdxFuncLeg,x93,Za];simp only [go_sem,YA,YS,YM,YL,YE,YD,YB,YN,YR,reduceIte,reduceCtorEq,↓reduceIte]
 refine eq_of_iff ?_
 rw [← idxF_any]
 simp
def entIdxFuncRid:Ent:=⟨154,.cons (.sl (.st (.cons (.int .i64) (.cons (.int .i64) (.int .i64))))) (.cons (.fn (.st (.cons (.int .i64) (.cons (.int .i64) (.int .i64)))) .bool) .nil),(.int .i64),false,none,fun _=>True,fun x=>idxF x.2.1 x.1⟩
theorem conIdxFuncRid:Con Tryz.prog entIdxFuncRid:=by
 refine con_is (C:=[]) x154 (by kernel_rfl) (by simp) fun x _ hf=>?_
 obtain ⟨(xs:List DRide),(p:DRide→Bool),_⟩:=x
 have hl:xs.length≤maxLen:=hf.1.1
 dsimp only [entIdxFuncRid,x154,Zb];simp only [go_sem,YA,YS,YM,YL,YE,YD,YB,YN,YR,reduceIte,reduceCtorEq,↓reduceIte]
 refine XW_for 1000 x154_0d [] Nat (fun k=>[(8,.val (.int .i64) (k:Int))]) (fun _=>[]) (fun k=>k≤xs.length∧∀ j,j < k→p (xs.getD j (0,0,0))=false) (fun k=>xs.length - k) 0 ?_ ?_ ?_
 ·dsimp only [x154_0d];simp only [go_sem,YA,YS,YM,YL,YE,YD,YB,YN,YR,reduceIte,reduceCtorEq,↓reduceIte]
  rfl
 ·exact ⟨by omega,fun j hj=>by omega⟩
 ·intro k hk
  dsimp only [x154_0,x154_0d,Z5,Za,Zg];simp only [go_sem,YA,YS,YM,YL,YE,YD,YB,YN,YR,reduceIte,reduceCtorEq,↓reduceIte]
  dsimp only [maxLen] at hl
  by_cases hkl:k < xs.length
  ·simp only [hkl,td,reduceCtorEq]
   refine ⟨fun h=>(idxF_at hkl hk.2 h).symm,fun h=>⟨k+1,by omega,⟨by omega,fun j hj=>?_⟩,i64_in _ (by omega)⟩⟩
   rcases Nat.lt_succ_iff_lt_or_eq.1 hj with h' | rfl
   ·exact hk.2 j h'
   ·exact h
  ·simp only [hkl,td,reduceCtorEq]
   exact (idxF_none fun j hj=>hk.2 j (by omega)).symm
def entConFuncRid:Ent:=⟨94,.cons (.sl (.st (.cons (.int .i64) (.cons (.int .i64) (.int .i64))))) (.cons (.fn (.st (.cons (.int .i64) (.cons (.int .i64) (.int .i64)))) .bool) .nil),.bool,false,none,fun _=>True,fun x=>x.1.any x.2.1⟩
theorem conConFuncRid:Con Tryz.prog entConFuncRid:=by
 refine con_is (C:=[entIdxFuncRid]) x94 (by kernel_rfl) (by simp [conIdxFuncRid]) fun x _ hf=>?_
 obtain ⟨(xs:List DRide),(p:DRide→Bool),_⟩:=x
 dsimp only [entConFuncRid,entIdxFuncRid,x94,Za];simp only [go_sem,YA,YS,YM,YL,YE,YD,YB,YN,YR,reduceIte,reduceCtorEq,↓reduceIte]
 refine eq_of_iff ?_
 rw [← idxF_any]
 simp
def entIdxFuncI:Ent:=⟨151,.cons (.sl (.int .i64)) (.cons (.fn (.int .i64) .bool) .nil),(.int .i64),false,none,fun _=>True,fun x=>idxF x.2.1 x.1⟩
theorem conIdxFuncI:Con Tryz.prog entIdxFuncI:=by
 refine con_is (C:=[]) x151 (by kernel_rfl) (by simp) fun x _ hf=>?_
 obtain ⟨(xs:List Int),(p:Int→Bool),_⟩:=x
 have hl:xs.length≤maxLen:=hf.1.1
 dsimp only [entIdxFuncI,x151,Zb];simp only [go_sem,YA,YS,YM,YL,YE,YD,YB,YN,YR,reduceIte,reduceCtorEq,↓reduceIte]
 refine XW_for 1000 x151_0d [] Nat (fun k=>[(8,.val (.int .i64) (k:Int))]) (fun _=>[]) (fun k=>k≤xs.length∧∀ j,j < k→p (xs.getD j 0)=false) (fun k=>xs.length - k) 0 ?_ ?_ ?_
 ·dsimp only [x151_0d];simp only [go_sem,YA,YS,YM,YL,YE,YD,YB,YN,YR,reduceIte,reduceCtorEq,↓reduceIte]
  rfl
 ·exact ⟨by omega,fun j hj=>by omega⟩
 ·intro k hk
  dsimp only [x151_0,x151_0d,Z1,Za,Zg];simp only [go_sem,YA,YS,YM,YL,YE,YD,YB,YN,YR,reduceIte,reduceCtorEq,↓reduceIte]
  dsimp only [maxLen] at hl
  by_cases hkl:k < xs.length
  ·simp only [hkl,td,reduceCtorEq]
   refine ⟨fun h=>(idxF_at hkl hk.2 h).symm,fun h=>⟨k+1,by omega,⟨by omega,fun j hj=>?_⟩,i64_in _ (by omega)⟩⟩
   rcases Nat.lt_succ_iff_lt_or_eq.1 hj with h' | rfl
   ·exact hk.2 j h'
   ·exact h
  ·simp only [hkl,td,reduceCtorEq]
   exact (idxF_none fun j hj=>hk.2 j (by omega)).symm
def entConFuncI:Ent:=⟨87,.cons (.sl (.int .i64)) (.cons (.fn (.int .i64) .bool) .nil),.bool,false,none,fun _=>True,fun x=>x.1.any x.2.1⟩
theorem conConFuncI:Con Tryz.prog entConFuncI:=by
 refine con_is (C:=[entIdxFuncI]) x87 (by kernel_rfl) (by simp [conIdxFuncI]) fun x _ hf=>?_
 obtain ⟨(xs:List Int),(p:Int→Bool),_⟩:=x
 dsimp only [entConFuncI,entIdxFuncI,x87,Za];simp only [go_sem,YA,YS,YM,YL,YE,YD,YB,YN,YR,reduceIte,reduceCtorEq,↓reduceIte]
 refine eq_of_iff ?_
 rw [← idxF_any]
 simp
def entRct1:Ent:=⟨89,.cons (.st (.cons (.int .i64) (.int .i64))) .nil,.bool,false,none,fun _=>True,fun x=>!winB x.1⟩
def csRc1:List Ent:=[] theorem hcsRc1 (f:FuncId):findEnt csRc1 f=findEnt [] f:=rfl
theorem conRct1:Con Tryz.prog entRct1:=by
 refine con_is (C:=csRc1) x89 (by kernel_rfl) (by simp [csRc1]) fun x hx hf=>?_
 obtain ⟨⟨(a:Int),(b:Int)⟩,_⟩:=x
 dsimp only [entRct1,x89,Z1,Za,Zb,Zc,Ze];simp only [↓hcsRc1,go_sem,YA,YS,YM,YL,YE,YD,YB,YN,YR,reduceIte,reduceCtorEq,↓reduceIte];try simp only [td,reduceCtorEq]
 unfold winB
 rw [Bool.eq_iff_iff]
 simp
 try omega
def entRct2:Ent:=⟨90,.cons (.st (.cons (.int .i64) (.int .i64))) .nil,.bool,false,none,fun _=>True,fun x=>!legB x.1⟩
def csRc2:List Ent:=[] theorem hcsRc2 (f:FuncId):findEnt csRc2 f=findEnt [] f:=rfl
theorem conRct2:Con Tryz.prog entRct2:=by
 refine con_is (C:=csRc2) x90 (by kernel_rfl) (by simp [csRc2]) fun x hx hf=>?_
 obtain ⟨⟨(a:Int),(b:Int)⟩,_⟩:=x
 dsimp only [entRct2,x90,Z1,Za,Zb,Zc,Ze];simp only [↓hcsRc2,go_sem,YA,YS,YM,YL,YE,YD,YB,YN,YR,reduceIte,reduceCtorEq,↓reduceIte];try simp only [td,reduceCtorEq]
 unfold legB
 rw [Bool.eq_iff_iff]
 simp
 try omega
def entRct3:Ent:=⟨91,.cons (.st (.cons (.int .i64) (.cons (.int .i64) (.int .i64)))) (.cons (.ptr (.int .i64)) .nil),.bool,false,none,fun _=>True,fun x=>!rideB x.2.1 x.1⟩
def csRc3:List Ent:=[] theorem hcsRc3 (f:FuncId):findEnt csRc3 f=findEnt [] f:=rfl
theorem conRct3:Con Tryz.prog entRct3:=by
 refine con_is (C:=csRc3) x91 (by kernel_rfl) (by simp [csRc3]) fun x hx hf=>?_
 obtain ⟨⟨(a:Int),(b:Int),(d:Int)⟩,(n:Int),_⟩:=x
 dsimp only [entRct3,x91,Z1,Za,Zb,Zc,Ze];simp only [↓hcsRc3,go_sem,YA,YS,YM,YL,YE,YD,YB,YN,YR,reduceIte,reduceCtorEq,↓reduceIte];try simp only [td,reduceCtorEq]
 unfold rideB
 rw [Bool.eq_iff_iff]
 simp
 try omega
theorem not_any {α:Type} (l:List α) (p:α→Bool):(!l.any fun x=>!p x)=l.all p:=by
 rw [List.not_any_eq_all_not];simp
def entRctR:Ent:=⟨45,.cons (.st (.cons (.sl (.st (.cons (.int .i64) (.int .i64)))) (.cons (.sl (.st (.cons (.int .i64) (.int .i64)))) (.sl (.st (.cons (.int .i64) (.cons (.int .i64) (.int .i64)))))))) .nil,.bool,false,none,fun _=>True,fun x=>rightC x.1⟩
def csRcR:List Ent:=[entConFuncWin,entConFuncLeg,entConFuncRid,entRct1,entRct2,entRct3] theorem hcsRcR (f:FuncId):findEnt csRcR f=findEnt [entConFuncWin,entConFuncLeg,entConFuncRid,entRct1,entRct2,entRct3] f:=rfl
theorem conRctR:Con Tryz.prog entRctR:=by
 refine con_is (C:=csRcR) x45 (by kernel_rfl) (by simp [csRcR,conConFuncWin,conConFuncLeg,conConFuncRid,conRct1,conRct2,conRct3]) fun x hx hf=>?_
 obtain ⟨⟨(W:List DWin),(L:List DLeg),(R:List DRide)⟩,_⟩:=x
 dsimp only [entRctR,x45,Z1,Z10,Z3,Za,Zb,Zc,Zd,Ze,Zg];simp only [↓hcsRcR,entConFuncWin,entConFuncLeg,entConFuncRid,entRct1,entRct2,entRct3,go_sem,YA,YS,YM,YL,YE,YD,YB,YN,YR,reduceIte,reduceCtorEq,↓reduceIte];try simp only [td,reduceCtorEq]
 have hW:W.length≤9223372036854775807:=hf.1.1.1
 have w:IntKind.i64.wrap ((W.length:Int) - 1)=(W.length:Int) - 1:=i64_in _ (by omega)
 rw [w]
 refine ⟨fun h=>?_,fun h=>?_⟩
 ·symm
  rw [← Bool.not_eq_true]
  intro q
  obtain ⟨q1,_⟩:=rightC_iff.1 q
  dsimp only at q1
  omega
 ·unfold rightC
  rw [decide_eq_true (by dsimp only;omega),Bool.true_and,not_any,not_any,not_any,Bool.and_assoc]
end T
end
section
open Go.RowKit Go.IntWalk
namespace T
def entRft1:Ent:=⟨158,.cons (.int .i64) .nil,.bool,false,none,fun _=>True,fun x=>!decide (0≤(x.1:Int)∧(x.1:Int)≤2097152)⟩
def csRf1:List Ent:=[] theorem hcsRf1 (f:FuncId):findEnt csRf1 f=findEnt [] f:=rfl
theorem conRft1:Con Tryz.prog entRft1:=by
 refine con_is (C:=csRf1) x158 (by kernel_rfl) (by simp [csRf1]) fun x hx hf=>?_
 obtain ⟨(n:Int),_⟩:=x
 dsimp only [entRft1,x158,Za];simp only [↓hcsRf1,go_sem,YA,YS,YM,YL,YE,YD,YB,YN,YR,reduceIte,reduceCtorEq,↓reduceIte];try simp only [td,reduceCtorEq]
 rw [Bool.eq_iff_iff]
 simp
 try omega
def entRfit:Ent:=⟨104,.cons (.st (.cons (.sl (.st (.cons (.int .i64) (.int .i64)))) (.cons (.sl (.st (.cons (.int .i64) (.int .i64)))) (.sl (.st (.cons (.int .i64) (.cons (.int .i64) (.int .i64)))))))) (.cons (.sl (.int .i64)) .nil),.bool,false,none,fun _=>True,fun x=>fitsG x.1 x.2.1⟩
def csRfi:List Ent:=[entRctR,entConFuncI,entRft1] theorem hcsRfi (f:FuncId):findEnt csRfi f=findEnt [entRctR,entConFuncI,entRft1] f:=rfl
theorem conRfit:Con Tryz.prog entRfit:=by
 refine con_is (C:=csRfi) x104 (by kernel_rfl) (by simp [csRfi,conRctR,conConFuncI,conRft1]) fun x hx hf=>?_
 obtain ⟨⟨(W:List DWin),(L:List DLeg),(R:List DRide)⟩,(g:List Int),_⟩:=x
 dsimp only [entRfit,x104,Z12,Z3,Za,Zb,Zc,Ze];simp only [↓hcsRfi,entRctR,entConFuncI,entRft1,go_sem,YA,YS,YM,YL,YE,YD,YB,YN,YR,reduceIte,reduceCtorEq,↓reduceIte];try simp only [td,reduceCtorEq]
 unfold fitsG
 rw [not_any,Bool.and_assoc]
 congr 2
 exact decide_eq_decide.2 (by dsimp only;omega)
def entPlay:Ent:=⟨105,.cons (.sl (.int .i64)) (.cons (.sl (.int .i64)) .nil),(.sl (.int .i64)),false,none,fun x=>List.length (α:=Int) x.1=List.length (α:=Int) x.2.1+1∧List.length (α:=Int) x.1≤1000∧Within 0 2097152 x.1∧Within 0 1048576 x.2.1,fun x=>playF x.1 x.2.1⟩
def csPly:List Ent:=[] theorem hcsPly (f:FuncId):findEnt csPly f=findEnt [] f:=rfl
theorem conPlay:Con Tryz.prog entPlay:=by
 refine con_is (C:=csPly) x105 (by kernel_rfl) (by simp [csPly]) fun x hx hf=>?_
 obtain ⟨(g:List Int),(t:List Int),_⟩:=x
 obtain ⟨h1,h2,hg,ht⟩:=hx
 have hg:Within 0 2097152 g:=hg
 have ht:Within 0 1048576 t:=ht
 have h1:g.length=t.length+1:=h1
 have h2:g.length≤1000:=h2
 have hb:=tmF_bd hg ht
 dsimp only [entPlay,x105,Z1,Za,Zb,Zg];simp only [↓hcsPly,go_sem,YA,YS,YM,YL,YE,YD,YB,YN,YR,reduceIte,reduceCtorEq,↓reduceIte];try simp only [td,reduceCtorEq]
 refine ⟨by omega,?_⟩
 refine XW_for 1000 x105_0d [] Nat (fun j=>[(15,.val (.int .i64) (j:Int)),(5,.own 5)]) (fun j=>[(5,.row 3 (.int .i64) ((List.range (j+1)).map (tmF g t)))]) (fun j=>j≤t.length) (fun j=>t.length - j) 0 ?_ ?_ ?_
 ·dsimp only [x105_0d]
  simp only [go_sem,YA,YS,YM,YL,YE,YD,YB,YN,YR,reduceIte,reduceCtorEq,↓reduceIte]
  exact ⟨rfl,rfl⟩
 ·exact Nat.zero_le _
 ·intro j hj
  have w2:j < t.length→IntKind.i64.wrap ((j:Int)+1)=((j+1:Nat):Int):=fun h=>i64_in _ (by omega)
  have hl:((List.range (j+1)).map (tmF g t)).length=j+1:=by rw [List.length_map,List.length_range]
  have hgd:((List.range (j+1)).map (tmF g t)).getD j 0=tmF g t j:=range_getD _ (by omega)
  have hbj:=hb j
  have htj:=ht.getD (Int.le_refl _) (by omega) j
  dsimp only [x105_0,x105_0d,Z1,Za,Zc,Zf]
  simp only [↓hcsPly,hl,hgd,go_sem,YA,YS,YM,YL,YE,YD,YB,YN,YR,reduceIte,reduceCtorEq,↓reduceIte]
  try simp only [hl,hgd,td,reduceCtorEq]
  refine ⟨fun hj'=>?_,fun hj'=>?_⟩
  ·have w3:IntKind.i64.wrap (tmF g t j+t.getD j 0)=tmF g t j+t.getD j 0:=i64_in _ (by omega)
   rw [w2 hj',w3,Int.toNat_natCast]
   exact ⟨hj',⟨by omega,by omega,⟨by omega,by omega⟩,by omega⟩,j+1,by omega,hj',rfl,range_snoc (tmF g t) (j+1)⟩
  ·unfold playF
   rw [show j=t.length by omega]
def entRun:Ent:=⟨98,.cons (.st (.cons (.sl (.st (.cons (.int .i64) (.int .i64)))) (.cons (.sl (.st (.cons (.int .i64) (.int .i64)))) (.sl (.st (.cons (.int .i64) (.cons (.int .i64) (.int .i64)))))))) (.cons (.sl (.int .i64)) (.cons (.sl (.int .i64)) .nil)),.cons (.sl (.int .i64)) (.cons (.int .i64) .nil),true,none,fun _=>True,fun x=>((rnF x.1 x.2.1 x.2.2.1).1,(rnF x.1 x.2.1 x.2.2.1).2,())⟩
def csRun:List Ent:=[entRfit,entPlay] theorem hcsRun (f:FuncId):findEnt csRun f=findEnt [entRfit,entPlay] f:=rfl
theorem conRun:Con Tryz.prog entRun:=by
 refine con_is (C:=csRun) x98 (by kernel_rfl) (by simp [csRun,conRfit,conPlay]) fun x hx hf=>?_
 obtain ⟨⟨(W:List DWin),(L:List DLeg),(R:List DRide)⟩,(g:List Int),(t:List Int),_⟩:=x
 dsimp only [entRun,x98,Z1,Z12,Z3,Za,Zb,Zc,Ze,Zg];simp only [↓hcsRun,entRfit,entPlay,go_sem,YA,YS,YM,YL,YE,YD,YB,YN,YR,reduceIte,reduceCtorEq,↓reduceIte];try simp only [td,reduceCtorEq]
 have hno:fitsG (W,L,R) g=false∨¬ t.length=L.length→rnF (W,L,R) g t=([],1):=fun h=>by
  unfold rnF
  rw [if_neg]
  rintro ⟨q1,q2⟩
  rcases h with h | h
  ·rw [h] at q1;cases q1
  ·exact h (tookB_iff.1 q2).1
 refine ⟨fun h=>by rw [hno h],?_⟩
 rintro ⟨hg,ht⟩
 obtain ⟨hr,hgl,hgw⟩:=fitsG_iff.1 hg
 have hc:=(rightC_iff.1 hr).1
 dsimp only at hgl hc
 refine XW_for 1000 x98_0d [0] Nat (fun j=>[(25,.val (.int .i64) (j:Int))]) (fun _=>[]) (fun j=>j≤L.length∧∀ k,k < j→(L.getD k (0,0)).1≤t.getD k 0∧t.getD k 0≤(L.getD k (0,0)).2) (fun j=>L.length - j) 0 ?_ ?_ ?_
 ·dsimp only [x98_0d]
  simp only [go_sem,YA,YS,YM,YL,YE,YD,YB,YN,YR,reduceIte,reduceCtorEq,↓reduceIte]
  try trivial
 ·exact ⟨Nat.zero_le _,fun k hk=>absurd hk (Nat.not_lt_zero _)⟩
 ·rintro j ⟨hj,hn⟩
  have w2:j < L.length→IntKind.i64.wrap ((j:Int)+1)=((j+1:Nat):Int):=fun h=>i64_in _ (by omega)
  dsimp only [x98_0,x98_0d,Z1,Z2,Za,Zb,Zc,Zf,Zh]
  simp only [↓hcsRun,entRfit,entPlay,go_sem,YA,YS,YM,YL,YE,YD,YB,YN,YR,reduceIte,reduceCtorEq,↓reduceIte]
  try simp only [td,reduceCtorEq]
  refine ⟨fun hj'=>⟨hj',⟨by omega,fun q=>⟨q,by omega⟩⟩,fun q=>?_,fun q=>⟨j+1,by omega,⟨hj',fun k hk=>?_⟩,w2 hj'⟩⟩,fun hj'=>?_⟩
  ·unfold rnF
   rw [if_neg]
   rintro ⟨_,q2⟩
   have:=(tookB_iff.1 q2).2 j hj'
   dsimp only at this
   omega
  ·by_cases c:k=j
   ·subst c;exact q
   ·exact hn k (by omega)
  ·have htb:tookB L t=true:=tookB_iff.2 ⟨ht,fun k hk=>hn k (by omega)⟩
   refine ⟨⟨by omega,by omega,hgw,took_within hr htb⟩,?_⟩
   unfold rnF
   rw [if_pos ⟨hg,htb⟩]
def entWorst:Ent:=⟨49,.cons (.st (.cons (.sl (.st (.cons (.int .i64) (.int .i64)))) (.cons (.sl (.st (.cons (.int .i64) (.int .i64)))) (.sl (.st (.cons (.int .i64) (.cons (.int .i64) (.int .i64)))))))) (.cons (.sl (.int .i64)) .nil),.cons (.sl (.int .i64)) (.cons (.int .i64) .nil),true,none,fun _=>True,fun x=>((worstF x.1 x.2.1).1,(worstF x.1 x.2.1).2,())⟩
def csWst:List Ent:=[entRfit,entPlay] theorem hcsWst (f:FuncId):findEnt csWst f=findEnt [entRfit,entPlay] f:=rfl
theorem conWorst:Con Tryz.prog entWorst:=by
 refine con_is (C:=csWst) x49 (by kernel_rfl) (by simp [csWst,conRfit,conPlay]) fun x hx hf=>?_
 obtain ⟨⟨(W:List DWin),(L:List DLeg),(R:List DRide)⟩,(g:List Int),_⟩:=x
 dsimp only [entWorst,x49,Z1,Z12,Z3,Za,Zb,Zg];simp only [↓hcsWst,entRfit,entPlay,go_sem,YA,YS,YM,YL,YE,YD,YB,YN,YR,reduceIte,reduceCtorEq,↓reduceIte];try simp only [td,reduceCtorEq]
 refine ⟨fun h=>by unfold worstF;rw [if_neg (by rw [h];simp)],fun hg=>?_⟩
 obtain ⟨hr,hgl,hgw⟩:=fitsG_iff.1 hg
 have hc:=(rightC_iff.1 hr).1
 dsimp only at hgl hc
 refine XW_for 1000 x49_0d [0,1] Nat (fun j=>[(16,.val (.int .i64) (j:Int)),(6,.own 7)]) (fun j=>[(7,.row 3 (.int .i64) ((highsF L).take j))]) (fun j=>j≤L.length) (fun j=>L.length - j) 0 ?_ ?_ ?_
 ·dsimp only [x49_0d]
  simp only [go_sem,YA,YS,YM,YL,YE,YD,YB,YN,YR,reduceIte,reduceCtorEq,↓reduceIte]
  try trivial
 ·exact Nat.zero_le _
 ·intro j hj
  have w2:j < L.length→IntKind.i64.wrap ((j:Int)+1)=((j+1:Nat):Int):=fun h=>i64_in _ (by omega)
  have hs:j < L.length→(highsF L).take j ++ [(L.getD j (0,0)).2]=(highsF L).take (j+1):=fun h=>by
   rw [List.take_succ_eq_append_getElem (by rw [highs_len];exact h),← highs_getD]
   simp [List.getD,highs_len,h]
  have hlt:((highsF L).take j).length=j:=by rw [List.length_take,highs_len];omega
  dsimp only [x49_0,x49_0d,Z1,Z2,Za,Zb]
  simp only [↓hcsWst,entRfit,entPlay,hlt,go_sem,YA,YS,YM,YL,YE,YD,YB,YN,YR,reduceIte,reduceCtorEq,↓reduceIte]
  try simp only [hlt,td,reduceCtorEq]
  refine ⟨fun hj'=>⟨hj',by omega,j+1,by omega,hj',w2 hj',hs hj'⟩,fun hj'=>?_⟩
  have e:(highsF L).take j=highsF L:=List.take_of_length_le (by rw [highs_len];omega)
  rw [e]
  refine ⟨⟨by omega,by omega,hgw,highs_within hr⟩,?_⟩
  unfold worstF
  rw [if_pos hg]
def entKeep:Ent:=⟨100,.cons (.st (.cons (.sl (.st (.cons (.int .i64) (.int .i64)))) (.cons (.sl (.st (.cons (.int .i64) (.int .i64)))) (.sl (.st (.cons (.int .i64) (.cons (.int .i64) (.int .i64)))))))) (.cons (.sl (.int .i64)) .nil),.bool,false,none,fun _=>True,fun x=>keepsF x.1 x.2.1⟩
def csKep:List Ent:=[entRctR] theorem hcsKep (f:FuncId):findEnt csKep f=findEnt [entRctR] f:=rfl
theorem conKeep:Con Tryz.prog entKeep:=by
 refine con_is (C:=csKep) z100 (by kernel_rfl) (by simp [csKep,conRctR]) fun x hx hf=>?_
 obtain ⟨⟨(W:List DWin),(L:List DLeg),(R:List DRide)⟩,(t:List Int),_⟩:=x
 dsimp only [entKeep,z100,z94,z154,x156,Z1,Z10,Z11,Z12,Z3,Za,Zb,Zc,Zd,Ze,Zf,Zg];simp only [↓hcsKep,entRctR,go_sem,YA,YS,YM,YL,YE,YD,YB,YN,YR,reduceIte,reduceCtorEq,↓reduceIte]
 try simp only [td,reduceCtorEq]
 have hW:W.length≤9223372036854775807:=hf.1.1.1
 have hno:rightC (W,L,R)=false∨¬ t.length=W.length→false=keepsF (W,L,R) t:=fun h=>by
  symm
  rw [← Bool.not_eq_true]
  intro q
  obtain ⟨q1,q2,_⟩:=keepsF_iff.1 q
  rcases h with h | h
  ·rw [h] at q1;cases q1
  ·exact h q2
 refine ⟨hno,?_⟩
 rintro ⟨hr,hl⟩
 have hc:=(rightC_iff.1 hr).1
 dsimp only at hc
 refine XW_for 1000 z100_0d [0,1] Nat (fun j=>[(21,.val (.int .i64) (j:Int))]) (fun _=>[]) (fun j=>j≤W.length∧∀ k,k < j→(W.getD k (0,0)).1≤t.getD k 0∧t.getD k 0≤(W.getD k (0,0)).2) (fun j=>W.length - j) 0 ?_ ?_ ?_
 ·dsimp only [z100_0d]
  simp only [go_sem,YA,YS,YM,YL,YE,YD,YB,YN,YR,reduceIte,reduceCtorEq,↓reduceIte]
  try trivial
 ·exact ⟨Nat.zero_le _,fun k hk=>absurd hk (Nat.not_lt_zero _)⟩
 ·rintro j ⟨hj,hn⟩
  have w2:j < W.length→IntKind.i64.wrap ((j:Int)+1)=((j+1:Nat):Int):=fun h=>i64_in _ (by omega)
  dsimp only [z100_0,z100_0d,z100,z94,z154,x156,Z1,Z10,Z11,Z12,Z2,Z3,Za,Zb,Zc,Zd,Ze,Zf,Zg,Zh]
  simp only [↓hcsKep,entRctR,go_sem,YA,YS,YM,YL,YE,YD,YB,YN,YR,reduceIte,reduceCtorEq,↓reduceIte]
  try simp only [td,reduceCtorEq]
  refine ⟨fun hj'=>⟨hj',⟨by omega,fun q=>⟨q,by omega⟩⟩,fun q=>?_,fun q=>⟨j+1,by omega,⟨hj',fun k hk=>?_⟩,w2 hj'⟩⟩,fun hj'=>?_⟩
  ·symm
   rw [← Bool.not_eq_true]
   intro q2
   have:=(keepsF_iff.1 q2).2.2.1 j hj'
   dsimp only at this
   omega
  ·by_cases c:k=j
   ·subst c;exact q
   ·exact hn k (by omega)
  ·have hn2:∀ k,k < W.length→(W.getD k (0,0)).1≤t.getD k 0∧t.getD k 0≤(W.getD k (0,0)).2:=fun k hk=>hn k (by omega)
   have ht0:∀ k,0≤t.getD k 0∧t.getD k 0≤1048576:=fun k=>by
    by_cases c:k < W.length
    ·have h1:=hn2 k c
     have h2:=right_win hr (k:=k) c
     dsimp only at h2
     omega
    ·rw [List.getD_eq_getElem?_getD,List.getElem?_eq_none (by omega)]
     exact ⟨Int.le_refl _,by show (0:Int)≤1048576;omega⟩
   refine XW_for 2000 z154_0d [0,1] Nat (fun i=>[(8,.val (.int .i64) (i:Int))]) (fun _=>[]) (fun i=>i≤R.length∧∀ k,k < i→t.getD (R.getD k (0,0,0)).2.1.toNat 0 - t.getD (R.getD k (0,0,0)).1.toNat 0≤(R.getD k (0,0,0)).2.2) (fun i=>R.length - i) 0 ?_ ?_ ?_
   ·dsimp only [z154_0d]
    simp only [go_sem,YA,YS,YM,YL,YE,YD,YB,YN,YR,reduceIte,reduceCtorEq,↓reduceIte]
    try trivial
   ·exact ⟨Nat.zero_le _,fun k hk=>absurd hk (Nat.not_lt_zero _)⟩
   ·rintro i ⟨hi,hm⟩
    have w3:i < R.length→IntKind.i64.wrap ((i:Int)+1)=((i+1:Nat):Int):=fun h=>i64_in _ (by omega)
    dsimp only [z154_0,z154_0d,z100,z94,z154,x156,Z1,Z10,Z11,Z12,Z3,Z5,Za,Zb,Zc,Zd,Ze,Zf,Zg]
    simp only [↓hcsKep,entRctR,go_sem,YA,YS,YM,YL,YE,YD,YB,YN,YR,reduceIte,reduceCtorEq,↓reduceIte]
    try simp only [td,reduceCtorEq]
    refine ⟨fun hi'=>?_,fun hi'=>?_⟩
    ·have hrd:=right_ride hr (k:=i) hi'
     dsimp only at hrd
     have e1:=ht0 (R.getD i (0,0,0)).2.1.toNat
     have e2:=ht0 (R.getD i (0,0,0)).1.toNat
     have hw:IntKind.i64.wrap (t.getD (R.getD i (0,0,0)).2.1.toNat 0 - t.getD (R.getD i (0,0,0)).1.toNat 0)=t.getD (R.getD i (0,0,0)).2.1.toNat 0 - t.getD (R.getD i (0,0,0)).1.toNat 0:=i64_in _ (by omega)
     rw [hw]
     refine ⟨hi',⟨⟨by omega,by omega⟩,by omega,by omega⟩,fun q=>?_,fun q=>⟨i+1,by omega,⟨hi',fun k hk=>?_⟩,w3 hi'⟩⟩
     ·symm
      rw [Bool.not_true,← Bool.not_eq_true]
      intro q2
      have:=(keepsF_iff.1 q2).2.2.2 _ (getD_mem2 (d:=(0,0,0)) hi')
      dsimp only at this
      omega
     ·by_cases c:k=i
      ·subst c;exact q
      ·exact hm k (by omega)
    ·symm
     refine (keepsF_iff.2 ⟨hr,hl,hn2,fun r hrm=>?_⟩).trans (by decide)
     obtain ⟨k,hk,rfl⟩:=List.getElem_of_mem hrm
     have h1:=hm k (by dsimp only at hk;omega)
     have:R.getD k (0,0,0)=R[k]:=by simp [List.getD,hk]
     rw [this] at h1
     exact h1
end T
end
section
open Go.RowKit Go.IntWalk
namespace T
def entWin:Ent:=⟨119,.cons (.int .i64) (.cons (.int .i64) (.cons (.int .i64) .nil)),.bool,false,none,fun _=>True,fun x=>decide ((x.2.1:Int)≤(x.1:Int)∧(x.1:Int)≤(x.2.2.1:Int))⟩
def csWi:List Ent:=[] theorem hcsWi (f:FuncId):findEnt csWi f=findEnt [] f:=rfl
theorem conWin:Con Tryz.prog entWin:=by
 refine con_is (C:=csWi) x119 (by kernel_rfl) (by simp [csWi]) fun x hx hf=>?_
 obtain ⟨(n:Int),(a:Int),(b:Int),_⟩:=x
 dsimp only [entWin,x119,Za];simp only [↓hcsWi,go_sem,YA,YS,YM,YL,YE,YD,YB,YN,YR,reduceIte,reduceCtorEq,↓reduceIte];try simp only [td,reduceCtorEq]
 rw [Bool.eq_iff_iff]
 simp
def entWk1:Ent:=⟨118,.cons (.st (.cons (.int .i64) (.int .i64))) .nil,.bool,false,none,fun _=>True,fun x=>!legB x.1⟩
def csWk1:List Ent:=[entWin] theorem hcsWk1 (f:FuncId):findEnt csWk1 f=findEnt [entWin] f:=rfl
theorem conWk1:Con Tryz.prog entWk1:=by
 refine con_is (C:=csWk1) x118 (by kernel_rfl) (by simp [csWk1,conWin]) fun x hx hf=>?_
 obtain ⟨⟨(a:Int),(b:Int)⟩,_⟩:=x
 dsimp only [entWk1,x118,Z1,Zb];simp only [↓hcsWk1,entWin,go_sem,YA,YS,YM,YL,YE,YD,YB,YN,YR,reduceIte,reduceCtorEq,↓reduceIte];try simp only [td,reduceCtorEq]
 unfold legB
 rw [Bool.eq_iff_iff]
 simp
 try omega
def entWkR:Ent:=⟨62,.cons (.st (.cons (.int .i64) (.cons (.int .i64) (.int .i64)))) (.cons (.sl (.st (.cons (.int .i64) (.int .i64)))) (.cons (.sl (.st (.cons (.int .i64) (.int .i64)))) .nil)),.bool,false,none,fun _=>True,fun x=>rightK x.1 x.2.1 x.2.2.1⟩
def csWkR:List Ent:=[entWin,entWk1,entConFuncLeg] theorem hcsWkR (f:FuncId):findEnt csWkR f=findEnt [entWin,entWk1,entConFuncLeg] f:=rfl
theorem conWkR:Con Tryz.prog entWkR:=by
 refine con_is (C:=csWkR) x62 (by kernel_rfl) (by simp [csWkR,conWin,conWk1,conConFuncLeg]) fun x hx hf=>?_
 obtain ⟨⟨(a:Int),(b:Int),(d:Int)⟩,(l:List DLeg),(w:List DLeg),_⟩:=x
 dsimp only [entWkR,x62,Z1,Za,Zb,Zc,Ze,Zg];simp only [↓hcsWkR,entWin,entWk1,entConFuncLeg,go_sem,YA,YS,YM,YL,YE,YD,YB,YN,YR,reduceIte,reduceCtorEq,↓reduceIte];try simp only [td,reduceCtorEq]
 unfold rightK longB
 rw [not_any,not_any,Bool.eq_iff_iff]
 simp only [Bool.and_eq_true,decide_eq_true_eq,beq_iff_eq]
 constructor
 ·rintro ⟨⟨⟨⟨⟨⟨h1,h2⟩,h3⟩,h4⟩,h5⟩,h6⟩,h7⟩
  exact ⟨⟨h1,h2,h3⟩,⟨by omega,by omega⟩,h6,h7⟩
 ·rintro ⟨⟨h1,h2,h3⟩,⟨h4,h5⟩,h6,h7⟩
  exact ⟨⟨⟨⟨⟨⟨h1,h2⟩,h3⟩,by omega⟩,by omega⟩,h6⟩,h7⟩
def entWalk:Ent:=⟨157,.cons (.st (.cons (.int .i64) (.cons (.int .i64) (.int .i64)))) (.cons (.sl (.st (.cons (.int .i64) (.int .i64)))) (.cons (.sl (.st (.cons (.int .i64) (.int .i64)))) .nil)),.cons (.int .i64) (.cons (.int .i64) (.cons (.int .i64) .nil)),true,none,fun x=>rightK x.1 x.2.1 x.2.2.1=true,fun x=>(if fstK x.1 x.2.1 x.2.2.1 < 0 then drvF (x.1:DShift).2.1 (highsF x.2.1) (lowsF x.2.2.1) (List.length (α:=DLeg) x.2.1) else 0,if fstK x.1 x.2.1 x.2.2.1 < 0 then wrkF (highsF x.2.1) (highsF x.2.2.1) (List.length (α:=DLeg) x.2.1) else 0,fstK x.1 x.2.1 x.2.2.1,())⟩
def csWlk:List Ent:=[] theorem hcsWlk (f:FuncId):findEnt csWlk f=findEnt [] f:=rfl
theorem conWalk:Con Tryz.prog entWalk:=by
 refine con_is (C:=csWlk) x157 (by kernel_rfl) (by simp [csWlk]) fun x hx hf=>?_
 obtain ⟨⟨(D:Int),(B:Int),(K:Int)⟩,(l:List DLeg),(w:List DLeg),_⟩:=x
 have hx:rightK (D,B,K) l w=true:=hx
 obtain ⟨_,⟨h1,h2⟩,h3,h4⟩:=rightK_iff.1 hx
 have hd:=fun j=>drv_bd (rest:=B) (w:=lowsF w) (legs_high h3) j
 have hk:=fun j=>wrk_bd (legs_high h3) (legs_high h4) j
 dsimp only [entWalk,x157,Za,Zb];simp only [↓hcsWlk,go_sem,YA,YS,YM,YL,YE,YD,YB,YN,YR,reduceIte,reduceCtorEq,↓reduceIte];try simp only [td,reduceCtorEq]
 refine XW_for 1000 x157_0d [0] Nat (fun j=>[(13,.val (.int .i64) (j:Int)),(6,.val (.int .i64) (drvF B (highsF l) (lowsF w) j)),(7,.val (.int .i64) (wrkF (highsF l) (highsF w) j))]) (fun _=>[]) (fun j=>j≤l.length∧∀ k,k < j→badK (D,B,K) l w k=false) (fun j=>l.length - j) 0 ?_ ?_ ?_
 ·dsimp only [x157_0d]
  simp only [go_sem,YA,YS,YM,YL,YE,YD,YB,YN,YR,reduceIte,reduceCtorEq,↓reduceIte]
  exact ⟨rfl,rfl,rfl⟩
 ·exact ⟨Nat.zero_le _,fun k hk=>absurd hk (Nat.not_lt_zero _)⟩
 rintro j ⟨hj,hn⟩
 by_cases hj':j < l.length
 ·have w2:IntKind.i64.wrap ((j:Int)+1)=((j+1:Nat):Int):=i64_in _ (by omega)
  have hjw:j < w.length:=by omega
  have hd1:=hd (j+1)
  have hk1:=hk (j+1)
  have ed:drvF B (highsF l) (lowsF w) (j+1)=(if (w.getD j (0,0)).1 ≥ B then 0 else drvF B (highsF l) (lowsF w) j)+(l.getD j (0,0)).2:=by
   show (if (lowsF w).getD j 0 ≥ B then 0 else _)+(highsF l).getD j 0=_
   rw [lows_getD,highs_getD]
  have ek:wrkF (highsF l) (highsF w) (j+1)=wrkF (highsF l) (highsF w) j+(if 0 < j then (w.getD j (0,0)).2 else 0)+(l.getD j (0,0)).2:=by
   show _+(if 0 < j then (highsF w).getD j 0 else 0)+(highsF l).getD j 0=_
   rw [highs_getD,highs_getD]
  dsimp only [x157_0,x157_0d,Z1,Z2,Za,Zb,Zc,Zd,Zg]
  simp only [↓hcsWlk,entWalk,hj',hjw,w2,go_sem,YA,YS,YM,YL,YE,YD,YB,YN,YR,reduceIte,reduceCtorEq,↓reduceIte]
  try simp only [hj',hjw,w2,td,reduceCtorEq]
  have hdj:=hd j
  have hkj:=hk j
  have hl1:=(legs_high h3).getD (Int.le_refl _) (by omega) j
  have hw1:=(legs_high h4).getD (Int.le_refl _) (by omega) j
  rw [highs_getD] at hl1 hw1
  have fin:(D < drvF B (highsF l) (lowsF w) (j+1)∨K < wrkF (highsF l) (highsF w) (j+1)→(0,0,(j:Int),())=(if fstK (D,B,K) l w < 0 then drvF B (highsF l) (lowsF w) l.length else 0,if fstK (D,B,K) l w < 0 then wrkF (highsF l) (highsF w) l.length else 0,fstK (D,B,K) l w,())) ∧
    (drvF B (highsF l) (lowsF w) (j+1)≤D∧wrkF (highsF l) (highsF w) (j+1)≤K→∃ x':Nat,l.length - x' < l.length - j∧(x' ≤ l.length∧∀ k:Nat,k < x'→badK (D,B,K) l w k=false)∧j+1=x'∧drvF B (highsF l) (lowsF w) (j+1)=drvF B (highsF l) (lowsF w) x'∧wrkF (highsF l) (highsF w) (j+1)=wrkF (highsF l) (highsF w) x'):=by
   have hbk:badK (D,B,K) l w j=(decide (D < drvF B (highsF l) (lowsF w) (j+1)) || decide (K < wrkF (highsF l) (highsF w) (j+1))):=rfl
   refine ⟨fun h=>?_,fun h=>⟨j+1,by omega,⟨hj',fun k hk=>?_⟩,rfl,rfl,rfl⟩⟩
   ·have:fstK (D,B,K) l w=j:=fstK_at hj' hn (by
     rw [hbk,Bool.or_eq_true,decide_eq_true_eq,decide_eq_true_eq]
     exact h)
    rw [this,if_neg (by omega),if_neg (by omega)]
   ·by_cases c:k=j
    ·subst c
     rw [hbk,Bool.or_eq_false_iff,decide_eq_false_iff_not,decide_eq_false_iff_not]
     omega
    ·exact hn k (by omega)
  refine ⟨fun hb=>⟨fun hp=>?_,fun hp=>?_⟩,fun hb=>⟨fun hp=>?_,fun hp=>?_⟩⟩
  ·rw [if_pos hb] at ed
   rw [if_pos (by omega)] at ek
   rw [i64_in (0+(l.getD j (0,0)).2) (by omega),← ed,i64_in (wrkF (highsF l) (highsF w) j+(w.getD j (0,0)).2) (by omega),i64_in (wrkF (highsF l) (highsF w) j+(w.getD j (0,0)).2+(l.getD j (0,0)).2) (by omega),← ek]
   exact fin
  ·rw [if_pos hb] at ed
   rw [if_neg (by omega),Int.add_zero] at ek
   rw [i64_in (0+(l.getD j (0,0)).2) (by omega),← ed,i64_in (wrkF (highsF l) (highsF w) j+(l.getD j (0,0)).2) (by omega),← ek]
   exact fin
  ·rw [if_neg (by omega)] at ed
   rw [if_pos (by omega)] at ek
   rw [i64_in (drvF B (highsF l) (lowsF w) j+(l.getD j (0,0)).2) (by omega),← ed,i64_in (wrkF (highsF l) (highsF w) j+(w.getD j (0,0)).2) (by omega),i64_in (wrkF (highsF l) (highsF w) j+(w.getD j (0,0)).2+(l.getD j (0,0)).2) (by omega),← ek]
   exact fin
  ·rw [if_neg (by omega)] at ed
   rw [if_neg (by omega),Int.add_zero] at ek
   rw [i64_in (drvF B (highsF l) (lowsF w) j+(l.getD j (0,0)).2) (by omega),← ed,i64_in (wrkF (highsF l) (highsF w) j+(l.getD j (0,0)).2) (by omega),← ek]
   exact fin
 ·dsimp only [x157_0,x157_0d,Z1,Z2,Za,Zb,Zc,Zd,Zg]
  simp only [↓hcsWlk,entWalk,hj',go_sem,YA,YS,YM,YL,YE,YD,YB,YN,YR,reduceIte,reduceCtorEq,↓reduceIte]
  try simp only [hj',td,reduceCtorEq]
  obtain rfl:j=l.length:=by omega
  rw [fstK_none hn,if_pos (by decide),if_pos (by decide)]
def entWCk:Ent:=⟨102,.cons (.st (.cons (.int .i64) (.cons (.int .i64) (.int .i64)))) (.cons (.sl (.st (.cons (.int .i64) (.int .i64)))) (.cons (.sl (.st (.cons (.int .i64) (.int .i64)))) .nil)),.cons (.int .i64) (.cons (.int .i64) .nil),true,none,fun _=>True,fun x=>((checkK x.1 x.2.1 x.2.2.1).1,(checkK x.1 x.2.1 x.2.2.1).2,())⟩
def csWCk:List Ent:=[entWkR,entWalk] theorem hcsWCk (f:FuncId):findEnt csWCk f=findEnt [entWkR,entWalk] f:=rfl
theorem conWCk:Con Tryz.prog entWCk:=by
 refine con_is (C:=csWCk) x102 (by kernel_rfl) (by simp [csWCk,conWkR,conWalk]) fun x hx hf=>?_
 obtain ⟨⟨(D:Int),(B:Int),(K:Int)⟩,(l:List DLeg),(w:List DLeg),_⟩:=x
 dsimp only [entWCk,x102,Z5,Za,Zb,Zc,Zg];simp only [↓hcsWCk,entWkR,entWalk,go_sem,YA,YS,YM,YL,YE,YD,YB,YN,YR,reduceIte,reduceCtorEq,↓reduceIte];try simp only [td,reduceCtorEq]
 refine ⟨fun h=>by unfold checkK;rw [if_pos h],fun h=>⟨h,fun q=>?_,fun q=>?_⟩⟩
 ·unfold checkK
  rw [if_neg (by rw [h];simp),if_neg (by omega)]
 ·unfold checkK
  rw [if_neg (by rw [h];simp),if_pos (by omega)]
end T
end
section
open Go.RowKit Go.IntWalk
namespace T
def entLong:Ent:=⟨122,.cons (.int .i64) .nil,.bool,false,none,fun _=>True,fun x=>longB x.1⟩
def csLng:List Ent:=[] theorem hcsLng (f:FuncId):findEnt csLng f=findEnt [] f:=rfl
theorem conLong:Con Tryz.prog entLong:=by
 refine con_is (C:=csLng) x122 (by kernel_rfl) (by simp [csLng]) fun x hx hf=>?_
 obtain ⟨(n:Int),_⟩:=x
 dsimp only [entLong,x122,Za];simp only [↓hcsLng,go_sem,YA,YS,YM,YL,YE,YD,YB,YN,YR,reduceIte,reduceCtorEq,↓reduceIte];try simp only [td,reduceCtorEq]
 unfold longB
 rw [Bool.eq_iff_iff]
 simp
def entLg19:Ent:=⟨123,.cons (.st (.cons (.int .i64) (.int .i64))) .nil,.bool,false,none,fun _=>True,fun x=>legB x.1⟩
def csLg9:List Ent:=[] theorem hcsLg9 (f:FuncId):findEnt csLg9 f=findEnt [] f:=rfl
theorem conLg19:Con Tryz.prog entLg19:=by
 refine con_is (C:=csLg9) x123 (by kernel_rfl) (by simp [csLg9]) fun x hx hf=>?_
 obtain ⟨⟨(a:Int),(b:Int)⟩,_⟩:=x
 dsimp only [entLg19,x123,Z1,Za,Zb,Zc,Ze];simp only [↓hcsLg9,go_sem,YA,YS,YM,YL,YE,YD,YB,YN,YR,reduceIte,reduceCtorEq,↓reduceIte];try simp only [td,reduceCtorEq]
 unfold legB
 rw [Bool.eq_iff_iff]
 simp
 try omega
def entRi19:Ent:=⟨70,.cons (.st (.cons (.int .i64) (.cons (.int .i64) (.int .i64)))) (.cons (.sl (.st (.cons (.int .i64) (.int .i64)))) (.cons (.sl (.st (.cons (.int .i64) (.int .i64)))) .nil)),.bool,false,none,fun _=>True,fun x=>rightK x.1 x.2.1 x.2.2.1⟩
def csRi9:List Ent:=[entLong,entLg19] theorem hcsRi9 (f:FuncId):findEnt csRi9 f=findEnt [entLong,entLg19] f:=rfl
theorem conRi19:Con Tryz.prog entRi19:=by
 refine con_is (C:=csRi9) x70 (by kernel_rfl) (by simp [csRi9,conLong,conLg19]) fun x hx hf=>?_
 obtain ⟨⟨(D:Int),(B:Int),(K:Int)⟩,(l:List DLeg),(w:List DLeg),_⟩:=x
 dsimp only [entRi19,x70,Z1,Za,Zb,Zc,Ze,Zg];simp only [↓hcsRi9,entLong,entLg19,go_sem,YA,YS,YM,YL,YE,YD,YB,YN,YR,reduceIte,reduceCtorEq,↓reduceIte];try simp only [td,reduceCtorEq]
 have hll:l.length≤9223372036854775807:=hf.2.1.1
 have hno:(rightK (D,B,K) l w=true→False)→false=rightK (D,B,K) l w:=fun h=>by
  symm
  rw [← Bool.not_eq_true]
  exact h
 refine ⟨fun h=>hno fun q=>?_,?_⟩
 ·obtain ⟨⟨q1,q2,q3⟩,⟨q4,q5⟩,_⟩:=rightK_iff.1 q
  dsimp only at q1 q2 q3
  rcases h with (((h | h) | h) | h) | h
  ·rw [h] at q1;cases q1
  ·rw [h] at q2;cases q2
  ·rw [h] at q3;cases q3
  ·omega
  ·exact h q5
 rintro ⟨⟨⟨⟨h1,h2⟩,h3⟩,h4⟩,h5⟩
 refine XW_for 1000 x70_0d [] Nat (fun j=>[(7,.val (.int .i64) (j:Int))]) (fun _=>[]) (fun j=>j≤l.length∧∀ k,k < j→legB (l.getD k (0,0))=true∧legB (w.getD k (0,0))=true) (fun j=>l.length - j) 0 ?_ ?_ ?_
 ·dsimp only [x70_0d]
  simp only [go_sem,YA,YS,YM,YL,YE,YD,YB,YN,YR,reduceIte,reduceCtorEq,↓reduceIte]
  try trivial
 ·exact ⟨Nat.zero_le _,fun k hk=>absurd hk (Nat.not_lt_zero _)⟩
 rintro j ⟨hj,hn⟩
 have w2:j < l.length→IntKind.i64.wrap ((j:Int)+1)=((j+1:Nat):Int):=fun h=>i64_in _ (by omega)
 dsimp only [x70_0,x70_0d,Z2,Za,Zb,Zc,Ze]
 simp only [↓hcsRi9,entLong,entLg19,go_sem,YA,YS,YM,YL,YE,YD,YB,YN,YR,reduceIte,reduceCtorEq,↓reduceIte]
 try simp only [td,reduceCtorEq]
 refine ⟨fun hj'=>⟨⟨hj',fun q=>⟨q,by omega⟩⟩,fun q=>hno fun z=>?_,fun q=>⟨j+1,by omega,⟨hj',fun k hk=>?_⟩,w2 hj'⟩⟩,fun hj'=>?_⟩
 ·obtain ⟨_,_,q1,q2⟩:=rightK_iff.1 z
  rcases q with q | q
  ·rw [q1 _ (getD_mem2 (d:=(0,0)) hj')] at q;cases q
  ·rw [q2 _ (getD_mem2 (d:=(0,0)) (by omega))] at q;cases q
 ·by_cases c:k=j
  ·subst c;exact q
  ·exact hn k (by omega)
 ·symm
  refine rightK_iff.2 ⟨⟨h1,h2,h3⟩,⟨by omega,h5⟩,fun x hx=>?_,fun x hx=>?_⟩
  ·obtain ⟨k,hk,rfl⟩:=List.getElem_of_mem hx
   have:=(hn k (by omega)).1
   rwa [show l.getD k (0,0)=l[k] by simp [List.getD,hk]] at this
  ·obtain ⟨k,hk,rfl⟩:=List.getElem_of_mem hx
   have:=(hn k (by omega)).2
   rwa [show w.getD k (0,0)=w[k] by simp [List.getD,hk]] at this
def entHs19:Ent:=⟨133,.cons (.sl (.st (.cons (.int .i64) (.int .i64)))) .nil,(.sl (.int .i64)),false,none,fun x=>List.length (α:=DLeg) x.1≤1000,fun x=>highsF x.1⟩
def csHs9:List Ent:=[] theorem hcsHs9 (f:FuncId):findEnt csHs9 f=findEnt [] f:=rfl
theorem conHs19:Con Tryz.prog entHs19:=by
 refine con_is (C:=csHs9) x133 (by kernel_rfl) (by simp [csHs9]) fun x hx hf=>?_
 obtain ⟨(L:List DLeg),_⟩:=x
 have hL:L.length≤1000:=hx
 dsimp only [entHs19,x133,Z1,Zb,Zg];simp only [↓hcsHs9,go_sem,YA,YS,YM,YL,YE,YD,YB,YN,YR,reduceIte,reduceCtorEq,↓reduceIte];try simp only [td,reduceCtorEq]
 refine XW_for 1000 x133_0d [0] Nat (fun j=>[(4,.val (.int .i64) (j:Int)),(3,.own 7)]) (fun j=>[(7,.row 3 (.int .i64) ((highsF L).take j))]) (fun j=>j≤L.length) (fun j=>L.length - j) 0 ?_ ?_ ?_
 ·dsimp only [x133_0d]
  simp only [go_sem,YA,YS,YM,YL,YE,YD,YB,YN,YR,reduceIte,reduceCtorEq,↓reduceIte]
  try trivial
 ·exact Nat.zero_le _
 intro j hj
 have w2:j < L.length→IntKind.i64.wrap ((j:Int)+1)=((j+1:Nat):Int):=fun h=>i64_in _ (by omega)
 have hs:j < L.length→(highsF L).take j ++ [(L.getD j (0,0)).2]=(highsF L).take (j+1):=fun h=>by
  rw [List.take_succ_eq_append_getElem (by rw [highs_len];exact h),← highs_getD]
  simp [List.getD,highs_len,h]
 have hlt:((highsF L).take j).length=j:=by rw [List.length_take,highs_len];omega
 dsimp only [x133_0,x133_0d,Z1,Z2,Za,Zb]
 simp only [↓hcsHs9,hlt,go_sem,YA,YS,YM,YL,YE,YD,YB,YN,YR,reduceIte,reduceCtorEq,↓reduceIte]
 try simp only [hlt,td,reduceCtorEq]
 refine ⟨fun hj'=>⟨⟨hj',by omega⟩,j+1,by omega,hj',w2 hj',hs hj'⟩,fun hj'=>?_⟩
 exact List.take_of_length_le (by rw [highs_len];omega)
def entLs19:Ent:=⟨132,.cons (.sl (.st (.cons (.int .i64) (.int .i64)))) .nil,(.sl (.int .i64)),false,none,fun x=>List.length (α:=DLeg) x.1≤1000,fun x=>lowsF x.1⟩
def csLs9:List Ent:=[] theorem hcsLs9 (f:FuncId):findEnt csLs9 f=findEnt [] f:=rfl
theorem conLs19:Con Tryz.prog entLs19:=by
 refine con_is (C:=csLs9) x132 (by kernel_rfl) (by simp [csLs9]) fun x hx hf=>?_
 obtain ⟨(L:List DLeg),_⟩:=x
 have hL:L.length≤1000:=hx
 dsimp only [entLs19,x132,Z1,Zb,Zg];simp only [↓hcsLs9,go_sem,YA,YS,YM,YL,YE,YD,YB,YN,YR,reduceIte,reduceCtorEq,↓reduceIte];try simp only [td,reduceCtorEq]
 refine XW_for 1000 x132_0d [0] Nat (fun j=>[(4,.val (.int .i64) (j:Int)),(3,.own 7)]) (fun j=>[(7,.row 3 (.int .i64) ((lowsF L).take j))]) (fun j=>j≤L.length) (fun j=>L.length - j) 0 ?_ ?_ ?_
 ·dsimp only [x132_0d]
  simp only [go_sem,YA,YS,YM,YL,YE,YD,YB,YN,YR,reduceIte,reduceCtorEq,↓reduceIte]
  try trivial
 ·exact Nat.zero_le _
 intro j hj
 have w2:j < L.length→IntKind.i64.wrap ((j:Int)+1)=((j+1:Nat):Int):=fun h=>i64_in _ (by omega)
 have hs:j < L.length→(lowsF L).take j ++ [(L.getD j (0,0)).1]=(lowsF L).take (j+1):=fun h=>by
  rw [List.take_succ_eq_append_getElem (by rw [lows_len];exact h),← lows_getD]
  simp [List.getD,lows_len,h]
 have hlt:((lowsF L).take j).length=j:=by rw [List.length_take,lows_len];omega
 dsimp only [x132_0,x132_0d,Z1,Z2,Za,Zb]
 simp only [↓hcsLs9,hlt,go_sem,YA,YS,YM,YL,YE,YD,YB,YN,YR,reduceIte,reduceCtorEq,↓reduceIte]
 try simp only [hlt,td,reduceCtorEq]
 refine ⟨fun hj'=>⟨⟨hj',by omega⟩,j+1,by omega,hj',w2 hj',hs hj'⟩,fun hj'=>?_⟩
 exact List.take_of_length_le (by rw [lows_len];omega)
def entDr19:Ent:=⟨136,.cons (.int .i64) (.cons (.sl (.int .i64)) (.cons (.sl (.int .i64)) (.cons (.int .i64) .nil))),(.int .i64),false,none,fun x=>((0≤(x.2.2.2.1:Int)∧(x.2.2.2.1:Int) < List.length (α:=Int) x.2.1)∧List.length (α:=Int) x.2.2.1=List.length (α:=Int) x.2.1∧List.length (α:=Int) x.2.1≤1000)∧Within 0 1048576 x.2.1,fun x=>drvF x.1 x.2.1 x.2.2.1 ((x.2.2.2.1:Int).toNat+1)⟩
def csDr9:List Ent:=[] theorem hcsDr9 (f:FuncId):findEnt csDr9 f=findEnt [] f:=rfl
theorem conDr19:Con Tryz.prog entDr19:=by
 refine con_is (C:=csDr9) x136 (by kernel_rfl) (by simp [csDr9]) fun x hx hf=>?_
 obtain ⟨(B:Int),(l:List Int),(w:List Int),(a:Int),_⟩:=x
 obtain ⟨⟨⟨h1,h2⟩,h3,h4⟩,hl⟩:=hx
 replace h1:0≤a:=h1
 replace h2:a < (l.length:Int):=h2
 replace h3:w.length=l.length:=h3
 replace h4:l.length≤1000:=h4
 replace hl:Within 0 1048576 l:=hl
 obtain ⟨a,rfl⟩:∃ z:Nat,a=z:=⟨a.toNat,by omega⟩
 have hd:=fun j=>drv_bd (rest:=B) (w:=w) hl j
 dsimp only [entDr19,x136,Za,Zg];simp only [↓hcsDr9,go_sem,YA,YS,YM,YL,YE,YD,YB,YN,YR,reduceIte,reduceCtorEq,↓reduceIte];try simp only [td,reduceCtorEq]
 refine XW_for 1000 x136_0d [] Nat (fun p=>[(10,.val (.int .i64) ((p:Int) - 1)),(9,.val (.int .i64) (drvF B l w (a+1) - drvF B l w p))]) (fun _=>[]) (fun p=>p≤a+1∧drvF B l w p≤drvF B l w (a+1)) (fun p=>p) (a+1) ?_ ?_ ?_
 ·dsimp only [x136_0d]
  simp only [go_sem,YA,YS,YM,YL,YE,YD,YB,YN,YR,reduceIte,reduceCtorEq,↓reduceIte]
  exact ⟨by show (a:Int)=((a+1:Nat):Int) - 1;omega,(Int.sub_self _).symm⟩
 ·exact ⟨Nat.le_refl _,Int.le_refl _⟩
 rintro p ⟨hp,hle⟩
 cases p with
 | zero =>
  have e10:¬ (((0:Nat):Int) - 1) ≥ 0:=by decide
  dsimp only [x136_0,x136_0d,Z1,Za,Zb,Zg]
  simp only [↓hcsDr9,e10,go_sem,YA,YS,YM,YL,YE,YD,YB,YN,YR,reduceIte,reduceCtorEq,↓reduceIte]
  try simp only [e10,td,reduceCtorEq]
  show drvF B l w (a+1) - 0=_
  rw [Int.sub_zero]
 | succ k =>
  have e9:((k+1:Nat):Int) - 1=(k:Int):=by omega
  have e10:(k:Int) ≥ 0:=by omega
  dsimp only [x136_0,x136_0d,Z1,Za,Zb,Zg]
  simp only [↓hcsDr9,e9,e10,Int.toNat_natCast,go_sem,YA,YS,YM,YL,YE,YD,YB,YN,YR,reduceIte,reduceCtorEq,↓reduceIte]
  try simp only [e9,e10,Int.toNat_natCast,td,reduceCtorEq]
  have hlk:=hl.getD (Int.le_refl _) (by omega) k
  have hdk:=hd (k+1)
  have hdk0:=hd k
  have hda:=hd (a+1)
  have ed:drvF B l w (k+1)=(if w.getD k 0 ≥ B then 0 else drvF B l w k)+l.getD k 0:=rfl
  have w3:IntKind.i64.wrap (drvF B l w (a+1) - drvF B l w (k+1)+l.getD k 0)=drvF B l w (a+1) - drvF B l w (k+1)+l.getD k 0:=i64_in _ (by omega)
  rw [w3]
  refine ⟨by omega,by omega,fun h=>?_,fun h=>⟨k,by omega,⟨by omega,?_⟩,i64_in _ (by omega),?_⟩⟩
  ·rw [if_pos h] at ed
   show drvF B l w (a+1) - drvF B l w (k+1)+l.getD k 0=drvF B l w (a+1)
   omega
  ·rw [if_neg (by omega)] at ed;omega
  ·rw [if_neg (by omega)] at ed
   show drvF B l w (a+1) - drvF B l w (k+1)+l.getD k 0=drvF B l w (a+1) - drvF B l w k
   omega
def entWo19:Ent:=⟨137,.cons (.sl (.int .i64)) (.cons (.sl (.int .i64)) (.cons (.int .i64) .nil)),(.int .i64),false,none,fun x=>((0≤(x.2.2.1:Int)∧(x.2.2.1:Int) < List.length (α:=Int) x.1)∧List.length (α:=Int) x.2.1=List.length (α:=Int) x.1∧List.length (α:=Int) x.1≤1000)∧Within 0 1048576 x.1∧Within 0 1048576 x.2.1,fun x=>wrkF x.1 x.2.1 ((x.2.2.1:Int).toNat+1)⟩
def csWo9:List Ent:=[] theorem hcsWo9 (f:FuncId):findEnt csWo9 f=findEnt [] f:=rfl
theorem conWo19:Con Tryz.prog entWo19:=by
 refine con_is (C:=csWo9) x137 (by kernel_rfl) (by simp [csWo9]) fun x hx hf=>?_
 obtain ⟨(l:List Int),(w:List Int),(a:Int),_⟩:=x
 obtain ⟨⟨⟨h1,h2⟩,h3,h4⟩,hl,hw⟩:=hx
 replace h1:0≤a:=h1
 replace h2:a < (l.length:Int):=h2
 replace h3:w.length=l.length:=h3
 replace h4:l.length≤1000:=h4
 replace hl:Within 0 1048576 l:=hl
 replace hw:Within 0 1048576 w:=hw
 obtain ⟨a,rfl⟩:∃ z:Nat,a=z:=⟨a.toNat,by omega⟩
 have hd:=fun j=>wrk_bd hl hw j
 dsimp only [entWo19,x137,Zb,Zg];simp only [↓hcsWo9,go_sem,YA,YS,YM,YL,YE,YD,YB,YN,YR,reduceIte,reduceCtorEq,↓reduceIte];try simp only [td,reduceCtorEq]
 refine XW_for 1000 x137_0d [] Nat (fun j=>[(8,.val (.int .i64) (j:Int)),(7,.val (.int .i64) (wrkF l w j))]) (fun _=>[]) (fun j=>j≤a+1) (fun j=>a+1 - j) 0 ?_ ?_ ?_
 ·dsimp only [x137_0d]
  simp only [go_sem,YA,YS,YM,YL,YE,YD,YB,YN,YR,reduceIte,reduceCtorEq,↓reduceIte]
  exact ⟨rfl,rfl⟩
 ·exact Nat.zero_le _
 intro j hj
 have w2:IntKind.i64.wrap ((j:Int)+1)=((j+1:Nat):Int):=i64_in _ (by omega)
 have hlj:=hl.getD (Int.le_refl _) (by omega) j
 have hwj:=hw.getD (Int.le_refl _) (by omega) j
 have hdj:=hd j
 have ek:wrkF l w (j+1)=wrkF l w j+(if 0 < j then w.getD j 0 else 0)+l.getD j 0:=rfl
 dsimp only [x137_0,x137_0d,Z1,Za,Zb,Zc]
 simp only [↓hcsWo9,w2,go_sem,YA,YS,YM,YL,YE,YD,YB,YN,YR,reduceIte,reduceCtorEq,↓reduceIte]
 try simp only [w2,td,reduceCtorEq]
 refine ⟨fun hja=>⟨by omega,fun hp=>⟨by omega,j+1,by omega,by omega,rfl,?_⟩,fun hp=>⟨j+1,by omega,by omega,rfl,?_⟩⟩,fun hja=>by rw [show j=a+1 by omega]⟩
 ·rw [if_pos (by omega)] at ek
  rw [i64_in (wrkF l w j+l.getD j 0) (by omega),i64_in (wrkF l w j+l.getD j 0+w.getD j 0) (by omega),ek]
  show wrkF l w j+l.getD j 0+w.getD j 0=wrkF l w j+w.getD j 0+l.getD j 0
  omega
 ·rw [if_neg (by omega),Int.add_zero] at ek
  rw [i64_in (wrkF l w j+l.getD j 0) (by omega),ek]
def entCk19:Ent:=⟨77,.cons (.st (.cons (.int .i64) (.cons (.int .i64) (.int .i64)))) (.cons (.sl (.st (.cons (.int .i64) (.int .i64)))) (.cons (.sl (.st (.cons (.int .i64) (.int .i64)))) .nil)),.cons (.int .i64) (.cons (.int .i64) .nil),true,none,fun _=>True,fun x=>((checkK x.1 x.2.1 x.2.2.1).1,(checkK x.1 x.2.1 x.2.2.1).2,())⟩
def csCk9:List Ent:=[entRi19,entHs19,entLs19,entDr19,entWo19] theorem hcsCk9 (f:FuncId):findEnt csCk9 f=findEnt [entRi19,entHs19,entLs19,entDr19,entWo19] f:=rfl
theorem conCk19:Con Tryz.prog entCk19:=by
 refine con_is (C:=csCk9) x77 (by kernel_rfl) (by simp [csCk9,conRi19,conHs19,conLs19,conDr19,conWo19]) fun x hx hf=>?_
 obtain ⟨⟨(D:Int),(B:Int),(K:Int)⟩,(l:List DLeg),(w:List DLeg),_⟩:=x
 dsimp only [entCk19,x77,Z5,Zb,Zg];simp only [↓hcsCk9,entRi19,entHs19,entLs19,entDr19,entWo19,go_sem,YA,YS,YM,YL,YE,YD,YB,YN,YR,reduceIte,reduceCtorEq,↓reduceIte];try simp only [td,reduceCtorEq]
 refine ⟨fun h=>by unfold checkK;rw [if_pos h],fun hr=>?_⟩
 obtain ⟨_,⟨h1,h2⟩,h3,h4⟩:=rightK_iff.1 hr
 refine XW_for 1000 x77_0d [0] Nat (fun j=>[(8,.val (.int .i64) (j:Int))]) (fun _=>[]) (fun j=>j≤l.length∧∀ k,k < j→badK (D,B,K) l w k=false) (fun j=>l.length - j) 0 ?_ ?_ ?_
 ·dsimp only [x77_0d]
  simp only [go_sem,YA,YS,YM,YL,YE,YD,YB,YN,YR,reduceIte,reduceCtorEq,↓reduceIte]
  try trivial
 ·exact ⟨Nat.zero_le _,fun k hk=>absurd hk (Nat.not_lt_zero _)⟩
 rintro j ⟨hj,hn⟩
 by_cases hj':j < l.length
 ·have w2:IntKind.i64.wrap ((j:Int)+1)=((j+1:Nat):Int):=i64_in _ (by omega)
  have hji:(j:Int) < (l.length:Int):=by omega
  have hbk:badK (D,B,K) l w j=(decide (D < drvF B (highsF l) (lowsF w) (j+1)) || decide (K < wrkF (highsF l) (highsF w) (j+1))):=rfl
  dsimp only [x77_0,x77_0d,Z1,Za,Zb,Zc,Zf,Zh]
  simp only [↓hcsCk9,entRi19,entHs19,entLs19,entDr19,entWo19,hj',hji,w2,highs_len,lows_len,Int.toNat_natCast,go_sem,YA,YS,YM,YL,YE,YD,YB,YN,YR,reduceIte,reduceCtorEq,↓reduceIte]
  try simp only [hj',hji,w2,highs_len,lows_len,Int.toNat_natCast,td,reduceCtorEq]
  have hl8:l.length≤1000:=by omega
  have hw8:w.length≤1000:=by omega
  refine ⟨⟨hl8,hw8,⟨⟨h2,hl8⟩,legs_high h3⟩,fun q=>⟨q,hl8⟩,fun q=>⟨q,hw8⟩,fun q=>⟨q,⟨h2,hl8⟩,legs_high h3,legs_high h4⟩⟩,fun q=>?_,fun q=>⟨j+1,by omega,⟨hj',fun k hk=>?_⟩,rfl⟩⟩
  ·have hfi:fstK (D,B,K) l w=j:=fstK_at hj' hn (by
    rw [hbk,Bool.or_eq_true,decide_eq_true_eq,decide_eq_true_eq]
    exact q)
   unfold checkK
   rw [if_neg (by rw [hr];simp),hfi,if_neg (by omega)]
  ·by_cases c:k=j
   ·subst c
    rw [hbk,Bool.or_eq_false_iff,decide_eq_false_iff_not,decide_eq_false_iff_not]
    omega
   ·exact hn k (by omega)
 ·have hji:¬ (j:Int) < (l.length:Int):=by omega
  obtain rfl:j=l.length:=by omega
  dsimp only [x77_0,x77_0d,Z1,Za,Zb,Zc,Zf,Zh]
  simp only [↓hcsCk9,entRi19,entHs19,entLs19,entDr19,entWo19,hj',hji,go_sem,YA,YS,YM,YL,YE,YD,YB,YN,YR,reduceIte,reduceCtorEq,↓reduceIte]
  try simp only [hj',hji,td,reduceCtorEq]
  unfold checkK
  rw [if_neg (by rw [hr];simp),fstK_none hn,if_pos (by decide)]
end T
end
section
open Go.RowKit Go.IntWalk
namespace T
def in3 (n a b:Int):Bool:=decide (a≤n∧n≤b)
def entIn16:Ent:=⟨131,.cons (.int .i64) (.cons (.int .i64) (.cons (.int .i64) .nil)),.bool,false,none,fun _=>True,fun x=>in3 x.1 x.2.1 x.2.2.1⟩
def csIn6:List Ent:=[] theorem hcsIn6 (f:FuncId):findEnt csIn6 f=findEnt [] f:=rfl
theorem conIn16:Con Tryz.prog entIn16:=by
 refine con_is (C:=csIn6) x131 (by kernel_rfl) (by simp [csIn6]) fun x hx hf=>?_
 obtain ⟨(n:Int),(a:Int),(b:Int),_⟩:=x
 dsimp only [entIn16,x131,Za];simp only [↓hcsIn6,go_sem,YA,YS,YM,YL,YE,YD,YB,YN,YR,reduceIte,reduceCtorEq,↓reduceIte];try simp only [td,reduceCtorEq]
 unfold in3
 rw [Bool.eq_iff_iff]
 simp
def entRR16:Ent:=⟨75,.cons (.st (.cons (.sl (.st (.cons (.int .i64) (.int .i64)))) (.cons (.sl (.st (.cons (.int .i64) (.int .i64)))) (.sl (.st (.cons (.int .i64) (.cons (.int .i64) (.int .i64)))))))) .nil,.bool,false,none,fun _=>True,fun x=>rightC x.1⟩
def csR16:List Ent:=[entIn16] theorem hcsR16 (f:FuncId):findEnt csR16 f=findEnt [entIn16] f:=rfl
theorem conRR16:Con Tryz.prog entRR16:=by
 refine con_is (C:=csR16) x75 (by kernel_rfl) (by simp [csR16,conIn16]) fun x hx hf=>?_
 obtain ⟨⟨(W:List DWin),(L:List DLeg),(R:List DRide)⟩,_⟩:=x
 have hW:W.length≤9223372036854775807:=hf.1.1.1
 have w:IntKind.i64.wrap ((W.length:Int) - 1)=(W.length:Int) - 1:=i64_in _ (by omega)
 dsimp only [entRR16,x75,Z10,Z3,Za,Zb,Zc,Ze,Zg];simp only [↓hcsR16,entIn16,w,go_sem,YA,YS,YM,YL,YE,YD,YB,YN,YR,reduceIte,reduceCtorEq,↓reduceIte]
 try simp only [w,td,reduceCtorEq]
 have hno:∀ h:rightC (W,L,R)=true→False,false=rightC (W,L,R):=fun h=>by
  symm
  rw [← Bool.not_eq_true]
  exact h
 refine ⟨fun h=>hno fun q=>?_,?_⟩
 ·have q1:=(rightC_iff.1 q).1
  dsimp only at q1
  omega
 rintro ⟨⟨⟨h1,h2⟩,h3⟩,h4⟩
 refine XW_for 1000 x75_0d [0] Nat (fun j=>[(4,.val (.int .i64) (j:Int))]) (fun _=>[]) (fun j=>j≤W.length∧∀ k,k < j→winB (W.getD k (0,0))=true) (fun j=>W.length - j) 0 ?_ ?_ ?_
 ·dsimp only [x75_0d]
  simp only [go_sem,YA,YS,YM,YL,YE,YD,YB,YN,YR,reduceIte,reduceCtorEq,↓reduceIte]
  try trivial
 ·exact ⟨Nat.zero_le _,fun k hk=>absurd hk (Nat.not_lt_zero _)⟩
 rintro j ⟨hj,hn⟩
 by_cases hj':j < W.length
 ·have w2:IntKind.i64.wrap ((j:Int)+1)=((j+1:Nat):Int):=i64_in _ (by omega)
  have hji:(j:Int) < (W.length:Int):=by omega
  have hmem:=getD_mem2 (d:=((0,0):DWin)) hj'
  generalize hS:W.getD j (0,0)=x at hmem
  obtain ⟨a,b⟩:=x
  dsimp only [x75_0,x75_0d,Z1,Z2,Z3,Za,Zb,Zc,Zf,Zh]
  simp only [↓hcsR16,entIn16,hj',hji,hS,w2,go_sem,YA,YS,YM,YL,YE,YD,YB,YN,YR,reduceIte,reduceCtorEq,↓reduceIte]
  try simp only [hj',hji,hS,w2,td,reduceCtorEq]
  have hwb:winB (a,b)=true ↔ in3 a 0 b=true∧b≤1048576:=by unfold winB in3;simp;omega
  refine ⟨fun h=>hno fun q=>?_,fun h=>⟨j+1,by omega,⟨hj',fun k hk=>?_⟩,rfl⟩⟩
  ·have q2:=(rightC_iff.1 q).2.1 _ hmem
   dsimp only at q2
   have:winB (a,b)=true:=by unfold winB;exact decide_eq_true q2
   have:=hwb.1 this
   rcases h with h | h
   ·rw [h] at this;cases this.1
   ·omega
  ·by_cases c:k=j
   ·subst c;rw [hS];exact hwb.2 h
   ·exact hn k (by omega)
 have hW2:∀ x ∈ W,winB x=true:=fun x hx=>by
  obtain ⟨k,hk,rfl⟩:=List.getElem_of_mem hx
  have:=hn k (by omega)
  rwa [show W.getD k (0,0)=W[k] by simp [List.getD,hk]] at this
 have hji:¬ (j:Int) < (W.length:Int):=by omega
 dsimp only [x75_0,x75_0d,Z1,Z2,Z3,Za,Zb,Zc,Zf,Zh]
 simp only [↓hcsR16,entIn16,hj',hji,w,go_sem,YA,YS,YM,YL,YE,YD,YB,YN,YR,reduceIte,reduceCtorEq,↓reduceIte]
 try simp only [hj',hji,w,td,reduceCtorEq]
 refine XW_for 2000 x75_1d [0] Nat (fun j=>[(5,.val (.int .i64) (j:Int))]) (fun _=>[]) (fun j=>j≤L.length∧∀ k,k < j→legB (L.getD k (0,0))=true) (fun j=>L.length - j) 0 ?_ ?_ ?_
 ·dsimp only [x75_1d]
  simp only [go_sem,YA,YS,YM,YL,YE,YD,YB,YN,YR,reduceIte,reduceCtorEq,↓reduceIte]
  try trivial
 ·exact ⟨Nat.zero_le _,fun k hk=>absurd hk (Nat.not_lt_zero _)⟩
 rintro j ⟨hj,hn⟩
 by_cases hj':j < L.length
 ·have w2:IntKind.i64.wrap ((j:Int)+1)=((j+1:Nat):Int):=i64_in _ (by omega)
  have hji:(j:Int) < (W.length:Int) - 1:=by omega
  have hmem:=getD_mem2 (d:=((0,0):DLeg)) hj'
  generalize hS:L.getD j (0,0)=x at hmem
  obtain ⟨a,b⟩:=x
  dsimp only [x75_1,x75_1d,Z1,Z2,Z3,Za,Zb,Zc,Zf,Zh]
  simp only [↓hcsR16,entIn16,hj',hji,hS,w,w2,go_sem,YA,YS,YM,YL,YE,YD,YB,YN,YR,reduceIte,reduceCtorEq,↓reduceIte]
  try simp only [hj',hji,hS,w,w2,td,reduceCtorEq]
  have hwb:legB (a,b)=true ↔ in3 a 0 b=true∧b≤1048576:=by unfold legB in3;simp;omega
  refine ⟨fun h=>hno fun q=>?_,fun h=>⟨j+1,by omega,⟨hj',fun k hk=>?_⟩,rfl⟩⟩
  ·have q2:=(rightC_iff.1 q).2.2.1 _ hmem
   dsimp only at q2
   have:legB (a,b)=true:=by unfold legB;exact decide_eq_true q2
   have:=hwb.1 this
   rcases h with h | h
   ·rw [h] at this;cases this.1
   ·omega
  ·by_cases c:k=j
   ·subst c;rw [hS];exact hwb.2 h
   ·exact hn k (by omega)
 have hL2:∀ x ∈ L,legB x=true:=fun x hx=>by
  obtain ⟨k,hk,rfl⟩:=List.getElem_of_mem hx
  have:=hn k (by omega)
  rwa [show L.getD k (0,0)=L[k] by simp [List.getD,hk]] at this
 have hji:¬ (j:Int) < (W.length:Int) - 1:=by omega
 dsimp only [x75_1,x75_1d,Z1,Z2,Z3,Za,Zb,Zc,Zf,Zh]
 simp only [↓hcsR16,entIn16,hj',hji,w,go_sem,YA,YS,YM,YL,YE,YD,YB,YN,YR,reduceIte,reduceCtorEq,↓reduceIte]
 try simp only [hj',hji,w,td,reduceCtorEq]
 refine XW_for 3000 x75_2d [0] Nat (fun j=>[(6,.val (.int .i64) (j:Int))]) (fun _=>[]) (fun j=>j≤R.length∧∀ k,k < j→rideB (W.length:Int) (R.getD k (0,0,0))=true) (fun j=>R.length - j) 0 ?_ ?_ ?_
 ·dsimp only [x75_2d]
  simp only [go_sem,YA,YS,YM,YL,YE,YD,YB,YN,YR,reduceIte,reduceCtorEq,↓reduceIte]
  try trivial
 ·exact ⟨Nat.zero_le _,fun k hk=>absurd hk (Nat.not_lt_zero _)⟩
 rintro j ⟨hj,hn⟩
 by_cases hj':j < R.length
 ·have w2:IntKind.i64.wrap ((j:Int)+1)=((j+1:Nat):Int):=i64_in _ (by omega)
  have hmem:=getD_mem2 (d:=((0,0,0):DRide)) hj'
  generalize hS:R.getD j (0,0,0)=x at hmem
  obtain ⟨a,b,d⟩:=x
  dsimp only [x75_2,x75_2d,Z1,Z10,Z5,Za,Zb,Zc,Zd,Ze,Zg]
  simp only [↓hcsR16,entIn16,hj',hS,w2,go_sem,YA,YS,YM,YL,YE,YD,YB,YN,YR,reduceIte,reduceCtorEq,↓reduceIte]
  try simp only [hj',hS,w2,td,reduceCtorEq]
  have hwb:rideB (W.length:Int) (a,b,d)=true ↔ ((0≤a∧a < b)∧b < (W.length:Int))∧in3 d 0 1048576=true:=by unfold rideB in3;simp;omega
  refine ⟨fun h=>hno fun q=>?_,fun h=>⟨j+1,by omega,⟨hj',fun k hk=>?_⟩,rfl⟩⟩
  ·have q2:=(rightC_iff.1 q).2.2.2 _ hmem
   dsimp only at q2
   have:rideB (W.length:Int) (a,b,d)=true:=by unfold rideB;exact decide_eq_true q2
   have:=hwb.1 this
   rcases h with h | h
   ·omega
   ·rw [h] at this;cases this.2
  ·by_cases c:k=j
   ·subst c;rw [hS];exact hwb.2 h
   ·exact hn k (by omega)
 have hR2:∀ x ∈ R,rideB (W.length:Int) x=true:=fun x hx=>by
  obtain ⟨k,hk,rfl⟩:=List.getElem_of_mem hx
  have:=hn k (by omega)
  rwa [show R.getD k (0,0,0)=R[k] by simp [List.getD,hk]] at this
 dsimp only [x75_2,x75_2d,Z1,Z10,Z5,Za,Zb,Zc,Zd,Ze,Zg]
 simp only [↓hcsR16,entIn16,hj',go_sem,YA,YS,YM,YL,YE,YD,YB,YN,YR,reduceIte,reduceCtorEq,↓reduceIte]
 try simp only [hj',td,reduceCtorEq]
 symm
 unfold rightC
 rw [decide_eq_true (by dsimp only;omega),Bool.true_and,Bool.and_eq_true,Bool.and_eq_true]
 exact ⟨List.all_eq_true.2 hW2,List.all_eq_true.2 hL2,List.all_eq_true.2 hR2⟩
def entHg16:Ent:=⟨138,.cons (.st (.cons (.sl (.st (.cons (.int .i64) (.int .i64)))) (.cons (.sl (.st (.cons (.int .i64) (.int .i64)))) (.sl (.st (.cons (.int .i64) (.cons (.int .i64) (.int .i64)))))))) (.cons (.int .i64) (.cons (.int .i64) .nil)),(.int .i64),false,none,fun x=>rightC x.1=true∧(0≤(x.2.1:Int)∧(x.2.1:Int)≤(x.2.2.1:Int))∧(x.2.2.1:Int)≤(x.1:DChain).2.1.length,fun x=>psF (x.1:DChain).2.1 (x.2.2.1:Int).toNat - psF (x.1:DChain).2.1 (x.2.1:Int).toNat⟩
def csH16:List Ent:=[] theorem hcsH16 (f:FuncId):findEnt csH16 f=findEnt [] f:=rfl
theorem conHg16:Con Tryz.prog entHg16:=by
 refine con_is (C:=csH16) x138 (by kernel_rfl) (by simp [csH16]) fun x hx hf=>?_
 obtain ⟨⟨(W:List DWin),(L:List DLeg),(R:List DRide)⟩,(a:Int),(b:Int),_⟩:=x
 obtain ⟨hr,⟨h1,h2⟩,h3⟩:=hx
 have h1:0≤a:=h1
 have h2:a≤b:=h2
 have h3:b≤(L.length:Int):=h3
 obtain ⟨a,rfl⟩:∃ z:Nat,a=z:=⟨a.toNat,by omega⟩
 obtain ⟨b,rfl⟩:∃ z:Nat,b=z:=⟨b.toNat,by omega⟩
 have hc:=(rightC_iff.1 hr).1
 dsimp only at hc
 have hps:=fun k=>psF_bd hr k
 dsimp only at hps
 dsimp only [entHg16,x138,Za,Zg];simp only [↓hcsH16,go_sem,YA,YS,YM,YL,YE,YD,YB,YN,YR,reduceIte,reduceCtorEq,↓reduceIte];try simp only [td,reduceCtorEq]
 refine XW_for 1000 x138_0d [0] Nat (fun j=>[(8,.val (.int .i64) ((a+j:Nat):Int)),(7,.val (.int .i64) (psF L (a+j) - psF L a))]) (fun _=>[]) (fun j=>a+j≤b) (fun j=>b - a - j) 0 ?_ ?_ ?_
 ·dsimp only [x138_0d]
  simp only [go_sem,YA,YS,YM,YL,YE,YD,YB,YN,YR,reduceIte,reduceCtorEq,↓reduceIte]
  exact ⟨rfl,by rw [Nat.add_zero];exact (Int.sub_self _).symm⟩
 ·show a+0≤b
  omega
 intro j hj
 have w2:IntKind.i64.wrap (((a+j:Nat):Int)+1)=((a+(j+1):Nat):Int):=(i64_in _ (by omega)).trans (by omega)
 dsimp only [x138_0,x138_0d,Z1,Z2,Z3,Za,Zb]
 simp only [↓hcsH16,w2,Int.toNat_natCast,go_sem,YA,YS,YM,YL,YE,YD,YB,YN,YR,reduceIte,reduceCtorEq,↓reduceIte]
 try simp only [w2,Int.toNat_natCast,td,reduceCtorEq]
 refine ⟨fun hj'=>⟨by omega,j+1,by omega,by omega,rfl,?_⟩,fun hj'=>by rw [show a+j=b by omega]⟩
 have h4:=right_leg hr (k:=a+j) (by dsimp only;omega)
 dsimp only at h4
 have h5:=hps (a+j)
 have h6:=hps a
 rw [i64_in (psF L (a+j) - psF L a+(L.getD (a+j) (0,0)).2) (by omega)]
 show _=psF L (a+j)+(L.getD (a+j) (0,0)).2 - psF L a
 omega
def entPl16:Ent:=⟨140,.cons (.st (.cons (.sl (.st (.cons (.int .i64) (.int .i64)))) (.cons (.sl (.st (.cons (.int .i64) (.int .i64)))) (.sl (.st (.cons (.int .i64) (.cons (.int .i64) (.int .i64)))))))) (.cons (.sl (.int .i64)) (.cons (.sl (.int .i64)) .nil)),(.sl (.int .i64)),false,none,fun x=>((x.1:DChain).1.length=List.length (α:=Int) x.2.2.1+1∧List.length (α:=Int) x.2.1=(x.1:DChain).1.length∧(x.1:DChain).1.length≤1000)∧Within 0 2097152 x.2.1∧Within 0 1048576 x.2.2.1,fun x=>playF x.2.1 x.2.2.1⟩
def csP16:List Ent:=[] theorem hcsP16 (f:FuncId):findEnt csP16 f=findEnt [] f:=rfl
theorem conPl16:Con Tryz.prog entPl16:=by
 refine con_is (C:=csP16) x140 (by kernel_rfl) (by simp [csP16]) fun x hx hf=>?_
 obtain ⟨⟨(W:List DWin),(L:List DLeg),(R:List DRide)⟩,(g:List Int),(t:List Int),_⟩:=x
 obtain ⟨⟨h1,h2,h3⟩,hg,ht⟩:=hx
 have hg:Within 0 2097152 g:=hg
 have ht:Within 0 1048576 t:=ht
 have h1:W.length=t.length+1:=h1
 have h2:g.length=W.length:=h2
 have h3:W.length≤1000:=h3
 have hb:=tmF_bd hg ht
 dsimp only [entPl16,x140,Z1,Zb,Zg];simp only [↓hcsP16,go_sem,YA,YS,YM,YL,YE,YD,YB,YN,YR,reduceIte,reduceCtorEq,↓reduceIte];try simp only [td,reduceCtorEq]
 refine XW_for 1000 x140_0d [0] Nat (fun j=>[(9,.val (.int .i64) (j:Int)),(8,.val (.int .i64) (if j=0 then 0 else tmF g t (j - 1))),(7,.own 7)]) (fun j=>[(7,.row 3 (.int .i64) ((List.range j).map (tmF g t)))]) (fun j=>j≤W.length) (fun j=>W.length - j) 0 ?_ ?_ ?_
 ·dsimp only [x140_0d]
  simp only [go_sem,YA,YS,YM,YL,YE,YD,YB,YN,YR,reduceIte,reduceCtorEq,↓reduceIte]
  exact ⟨rfl,rfl⟩
 ·exact Nat.zero_le _
 intro j hj
 have hl:((List.range j).map (tmF g t)).length=j:=by rw [List.length_map,List.length_range]
 by_cases hj':j < W.length
 ·have w2:IntKind.i64.wrap ((j:Int)+1)=((j+1:Nat):Int):=i64_in _ (by omega)
  have hji:(j:Int) < (W.length:Int):=by omega
  cases j with
  | zero =>
   have n0:¬ ((0:Nat):Int) > 0:=by decide
   dsimp only [x140_0,x140_0d,Z1,Z3,Za,Zb,Zc,Zd]
   simp only [↓hcsP16,hj',hji,hl,w2,n0,if_true,Int.toNat_natCast,go_sem,YA,YS,YM,YL,YE,YD,YB,YN,YR,reduceIte,reduceCtorEq,↓reduceIte]
   try simp only [hj',hji,hl,w2,n0,if_true,Int.toNat_natCast,td,reduceCtorEq]
   exact ⟨by omega,1,by omega,by omega,⟨rfl,rfl⟩,rfl⟩
  | succ q =>
   have n0:((q+1:Nat):Int) > 0:=by omega
   have n1:¬ q+1=0:=by omega
   have w3:IntKind.i64.wrap (((q+1:Nat):Int) - 1)=(q:Int):=(i64_in _ (by omega)).trans (by omega)
   have hbj:=hb q
   have htj:=ht.getD (Int.le_refl _) (by omega) q
   have w4:IntKind.i64.wrap (tmF g t q+t.getD q 0)=tmF g t q+t.getD q 0:=i64_in _ (by omega)
   dsimp only [x140_0,x140_0d,Z1,Z3,Za,Zb,Zc,Zd]
   simp only [↓hcsP16,hj',hji,hl,w2,w3,w4,n0,n1,Nat.add_sub_cancel,Int.toNat_natCast,go_sem,YA,YS,YM,YL,YE,YD,YB,YN,YR,reduceIte,reduceCtorEq,↓reduceIte]
   try simp only [hj',hji,hl,w2,w3,w4,n0,n1,Nat.add_sub_cancel,Int.toNat_natCast,td,reduceCtorEq]
   exact ⟨by omega,by omega,by omega,q+2,by omega,by omega,⟨rfl,rfl⟩,range_snoc (tmF g t) (q+1)⟩
 ·have hji:¬ (j:Int) < (W.length:Int):=by omega
  dsimp only [x140_0,x140_0d,Z1,Z3,Za,Zb,Zc,Zd]
  simp only [↓hcsP16,hj',hji,go_sem,YA,YS,YM,YL,YE,YD,YB,YN,YR,reduceIte,reduceCtorEq,↓reduceIte]
  try simp only [hj',hji,td,reduceCtorEq]
  unfold playF
  rw [show j=t.length+1 by omega]
def entHi16:Ent:=⟨141,.cons (.st (.cons (.sl (.st (.cons (.int .i64) (.int .i64)))) (.cons (.sl (.st (.cons (.int .i64) (.int .i64)))) (.sl (.st (.cons (.int .i64) (.cons (.int .i64) (.int .i64)))))))) .nil,(.sl (.int .i64)),false,none,fun x=>(x.1:DChain).2.1.length≤1000,fun x=>highsF (x.1:DChain).2.1⟩
def csHi6:List Ent:=[] theorem hcsHi6 (f:FuncId):findEnt csHi6 f=findEnt [] f:=rfl
theorem conHi16:Con Tryz.prog entHi16:=by
 refine con_is (C:=csHi6) x141 (by kernel_rfl) (by simp [csHi6]) fun x hx hf=>?_
 obtain ⟨⟨(W:List DWin),(L:List DLeg),(R:List DRide)⟩,_⟩:=x
 have hL:L.length≤1000:=hx
 dsimp only [entHi16,x141,Z1,Zb,Zg];simp only [↓hcsHi6,go_sem,YA,YS,YM,YL,YE,YD,YB,YN,YR,reduceIte,reduceCtorEq,↓reduceIte];try simp only [td,reduceCtorEq]
 refine XW_for 1000 x141_0d [0] Nat (fun j=>[(4,.val (.int .i64) (j:Int)),(3,.own 7)]) (fun j=>[(7,.row 3 (.int .i64) ((highsF L).take j))]) (fun j=>j≤L.length) (fun j=>L.length - j) 0 ?_ ?_ ?_
 ·dsimp only [x141_0d]
  simp only [go_sem,YA,YS,YM,YL,YE,YD,YB,YN,YR,reduceIte,reduceCtorEq,↓reduceIte]
  try trivial
 ·exact Nat.zero_le _
 intro j hj
 have w2:j < L.length→IntKind.i64.wrap ((j:Int)+1)=((j+1:Nat):Int):=fun h=>i64_in _ (by omega)
 have hs:j < L.length→(highsF L).take j ++ [(L.getD j (0,0)).2]=(highsF L).take (j+1):=fun h=>by
  rw [List.take_succ_eq_append_getElem (by rw [highs_len];exact h),← highs_getD]
  simp [List.getD,highs_len,h]
 have hlt:((highsF L).take j).length=j:=by rw [List.length_take,highs_len];omega
 dsimp only [x141_0,x141_0d,Z1,Z2,Z3,Za,Zb,Zd]
 simp only [↓hcsHi6,hlt,go_sem,YA,YS,YM,YL,YE,YD,YB,YN,YR,reduceIte,reduceCtorEq,↓reduceIte]
 try simp only [hlt,td,reduceCtorEq]
 refine ⟨fun hj'=>⟨⟨hj',by omega⟩,j+1,by omega,hj',w2 hj',hs hj'⟩,fun hj'=>?_⟩
 exact List.take_of_length_le (by rw [highs_len];omega)
def fit16 (c:DChain) (g:List Int):Bool:=(g.all fun n=>in3 n 0 2097152) && decide (g.length=c.1.length)
theorem fit16_iff {c:DChain} {g:List Int} (h:rightC c=true):fit16 c g=true ↔ fitsG c g=true:=by
 rw [fitsG_iff]
 unfold fit16 Within
 simp only [Bool.and_eq_true,decide_eq_true_eq,List.all_eq_true]
 unfold in3
 simp only [decide_eq_true_eq]
 exact ⟨fun q=>⟨h,q.2,q.1⟩,fun q=>⟨q.2.2,q.2.1⟩⟩
def entFt16:Ent:=⟨142,.cons (.st (.cons (.sl (.st (.cons (.int .i64) (.int .i64)))) (.cons (.sl (.st (.cons (.int .i64) (.int .i64)))) (.sl (.st (.cons (.int .i64) (.cons (.int .i64) (.int .i64)))))))) (.cons (.sl (.int .i64)) .nil),.bool,false,none,fun _=>True,fun x=>fit16 x.1 x.2.1⟩
def csF16:List Ent:=[entIn16] theorem hcsF16 (f:FuncId):findEnt csF16 f=findEnt [entIn16] f:=rfl
theorem conFt16:Con Tryz.prog entFt16:=by
 refine con_is (C:=csF16) x142 (by kernel_rfl) (by simp [csF16,conIn16]) fun x hx hf=>?_
 obtain ⟨⟨(W:List DWin),(L:List DLeg),(R:List DRide)⟩,(g:List Int),_⟩:=x
 have hgl:g.length≤9223372036854775807:=hf.2.1.1
 dsimp only [entFt16,x142,Z3,Zb];simp only [↓hcsF16,entIn16,go_sem,YA,YS,YM,YL,YE,YD,YB,YN,YR,reduceIte,reduceCtorEq,↓reduceIte];try simp only [td,reduceCtorEq]
 refine XW_for 1000 x142_0d [0] Nat (fun j=>[(5,.val (.int .i64) (j:Int))]) (fun _=>[]) (fun j=>j≤g.length∧∀ k,k < j→in3 (g.getD k 0) 0 2097152=true) (fun j=>g.length - j) 0 ?_ ?_ ?_
 ·dsimp only [x142_0d]
  simp only [go_sem,YA,YS,YM,YL,YE,YD,YB,YN,YR,reduceIte,reduceCtorEq,↓reduceIte]
  try trivial
 ·exact ⟨Nat.zero_le _,fun k hk=>absurd hk (Nat.not_lt_zero _)⟩
 rintro j ⟨hj,hn⟩
 have w2:j < g.length→IntKind.i64.wrap ((j:Int)+1)=((j+1:Nat):Int):=fun h=>i64_in _ (by omega)
 dsimp only [x142_0,x142_0d,Z1,Za,Zb]
 simp only [↓hcsF16,entIn16,go_sem,YA,YS,YM,YL,YE,YD,YB,YN,YR,reduceIte,reduceCtorEq,↓reduceIte]
 try simp only [td,reduceCtorEq]
 refine ⟨fun hj'=>⟨hj',fun q=>?_,fun q=>⟨j+1,by omega,⟨hj',fun k hk=>?_⟩,w2 hj'⟩⟩,fun hj'=>?_⟩
 ·symm
  rw [← Bool.not_eq_true]
  intro z
  unfold fit16 at z
  rw [Bool.and_eq_true,List.all_eq_true] at z
  have:=z.1 _ (getD_mem2 (d:=(0:Int)) hj')
  rw [q] at this
  cases this
 ·by_cases c:k=j
  ·subst c;exact q
  ·exact hn k (by omega)
 ·unfold fit16
  have:(g.all fun n=>in3 n 0 2097152)=true:=List.all_eq_true.2 fun x hx=>by
   obtain ⟨k,hk,rfl⟩:=List.getElem_of_mem hx
   have:=hn k (by omega)
   rwa [show g.getD k 0=g[k] by simp [List.getD,hk]] at this
  rw [this,Bool.true_and,Bool.eq_iff_iff]
  simp
  try omega
def entRun16:Ent:=⟨134,.cons (.st (.cons (.sl (.st (.cons (.int .i64) (.int .i64)))) (.cons (.sl (.st (.cons (.int .i64) (.int .i64)))) (.sl (.st (.cons (.int .i64) (.cons (.int .i64) (.int .i64)))))))) (.cons (.sl (.int .i64)) (.cons (.sl (.int .i64)) .nil)),.cons (.sl (.int .i64)) (.cons (.int .i64) .nil),true,none,fun _=>True,fun x=>((rnF x.1 x.2.1 x.2.2.1).1,(rnF x.1 x.2.1 x.2.2.1).2,())⟩
def csRu6:List Ent:=[entIn16,entRR16,entFt16,entPl16] theorem hcsRu6 (f:FuncId):findEnt csRu6 f=findEnt [entIn16,entRR16,entFt16,entPl16] f:=rfl
theorem conRun16:Con Tryz.prog entRun16:=by
 refine con_is (C:=csRu6) x134 (by kernel_rfl) (by simp [csRu6,conIn16,conRR16,conFt16,conPl16]) fun x hx hf=>?_
 obtain ⟨⟨(W:List DWin),(L:List DLeg),(R:List DRide)⟩,(g:List Int),(t:List Int),_⟩:=x
 dsimp only [entRun16,x134,Z1,Z12,Z3,Za,Zb,Zc,Ze,Zg];simp only [↓hcsRu6,entIn16,entRR16,entFt16,entPl16,go_sem,YA,YS,YM,YL,YE,YD,YB,YN,YR,reduceIte,reduceCtorEq,↓reduceIte];try simp only [td,reduceCtorEq]
 have hno:(rightC (W,L,R)=false∨fit16 (W,L,R) g=false)∨¬ t.length=L.length→rnF (W,L,R) g t=([],1):=fun h=>by
  unfold rnF
  rw [if_neg]
  rintro ⟨q1,q2⟩
  have q0:=(fitsG_iff.1 q1).1
  rcases h with (h | h) | h
  ·rw [h] at q0;cases q0
  ·rw [(fit16_iff q0).2 q1] at h;cases h
  ·exact h (tookB_iff.1 q2).1
 refine ⟨fun h=>by rw [hno h],?_⟩
 rintro ⟨⟨hr,hg0⟩,ht⟩
 have hg:=(fit16_iff hr).1 hg0
 obtain ⟨_,hgl,hgw⟩:=fitsG_iff.1 hg
 have hc:=(rightC_iff.1 hr).1
 dsimp only at hgl hc
 refine XW_for 1000 x134_0d [0] Nat (fun j=>[(8,.val (.int .i64) (j:Int))]) (fun _=>[]) (fun j=>j≤t.length∧∀ k,k < j→(L.getD k (0,0)).1≤t.getD k 0∧t.getD k 0≤(L.getD k (0,0)).2) (fun j=>t.length - j) 0 ?_ ?_ ?_
 ·dsimp only [x134_0d]
  simp only [go_sem,YA,YS,YM,YL,YE,YD,YB,YN,YR,reduceIte,reduceCtorEq,↓reduceIte]
  try trivial
 ·exact ⟨Nat.zero_le _,fun k hk=>absurd hk (Nat.not_lt_zero _)⟩
 rintro j ⟨hj,hn⟩
 have w2:j < t.length→IntKind.i64.wrap ((j:Int)+1)=((j+1:Nat):Int):=fun h=>i64_in _ (by omega)
 dsimp only [x134_0,x134_0d,Z1,Z2,Z3,Za,Zb,Zc,Zf]
 simp only [↓hcsRu6,entIn16,entRR16,entFt16,entPl16,go_sem,YA,YS,YM,YL,YE,YD,YB,YN,YR,reduceIte,reduceCtorEq,↓reduceIte]
 try simp only [td,reduceCtorEq]
 refine ⟨fun hj'=>⟨⟨hj',by omega⟩,fun q=>?_,fun q=>⟨j+1,by omega,⟨hj',fun k hk=>?_⟩,w2 hj'⟩⟩,fun hj'=>?_⟩
 ·unfold rnF
  rw [if_neg]
  rintro ⟨_,q2⟩
  have:=(tookB_iff.1 q2).2 j (by dsimp only;omega)
  dsimp only at this
  have z:in3 (t.getD j 0) (L.getD j (0,0)).1 (L.getD j (0,0)).2=true:=decide_eq_true this
  rw [q] at z
  cases z
 ·by_cases c:k=j
  ·subst c;exact of_decide_eq_true q
  ·exact hn k (by omega)
 ·have htb:tookB L t=true:=tookB_iff.2 ⟨ht,fun k hk=>hn k (by omega)⟩
  refine ⟨⟨⟨by omega,hgl,by omega⟩,hgw,took_within hr htb⟩,?_⟩
  unfold rnF
  rw [if_pos ⟨hg,htb⟩]
def entWst16:Ent:=⟨80,.cons (.st (.cons (.sl (.st (.cons (.int .i64) (.int .i64)))) (.cons (.sl (.st (.cons (.int .i64) (.int .i64)))) (.sl (.st (.cons (.int .i64) (.cons (.int .i64) (.int .i64)))))))) (.cons (.sl (.int .i64)) .nil),.cons (.sl (.int .i64)) (.cons (.int .i64) .nil),true,none,fun _=>True,fun x=>((worstF x.1 x.2.1).1,(worstF x.1 x.2.1).2,())⟩
def csWs6:List Ent:=[entRR16,entFt16,entPl16,entHi16] theorem hcsWs6 (f:FuncId):findEnt csWs6 f=findEnt [entRR16,entFt16,entPl16,entHi16] f:=rfl
theorem conWst16:Con Tryz.prog entWst16:=by
 refine con_is (C:=csWs6) x80 (by kernel_rfl) (by simp [csWs6,conRR16,conFt16,conPl16,conHi16]) fun x hx hf=>?_
 obtain ⟨⟨(W:List DWin),(L:List DLeg),(R:List DRide)⟩,(g:List Int),_⟩:=x
 dsimp only [entWst16,x80,Z1,Z12,Zb,Zc,Zd];simp only [↓hcsWs6,entRR16,entFt16,entPl16,entHi16,go_sem,YA,YS,YM,YL,YE,YD,YB,YN,YR,reduceIte,reduceCtorEq,↓reduceIte];try simp only [td,reduceCtorEq]
 refine ⟨fun h=>?_,?_⟩
 ·unfold worstF
  rw [if_neg]
  intro q1
  have q0:=(fitsG_iff.1 q1).1
  rcases h with h | h
  ·rw [h] at q0;cases q0
  ·rw [(fit16_iff q0).2 q1] at h;cases h
 ·rintro ⟨hr,hg0⟩
  have hg:=(fit16_iff hr).1 hg0
  obtain ⟨_,hgl,hgw⟩:=fitsG_iff.1 hg
  have hc:=(rightC_iff.1 hr).1
  dsimp only at hgl hc
  refine ⟨⟨by omega,⟨by rw [highs_len];omega,hgl,by omega⟩,hgw,highs_within hr⟩,?_⟩
  unfold worstF
  rw [if_pos hg]
def entKp16:Ent:=⟨135,.cons (.st (.cons (.sl (.st (.cons (.int .i64) (.int .i64)))) (.cons (.sl (.st (.cons (.int .i64) (.int .i64)))) (.sl (.st (.cons (.int .i64) (.cons (.int .i64) (.int .i64)))))))) (.cons (.sl (.int .i64)) .nil),.bool,false,none,fun _=>True,fun x=>keepsF x.1 x.2.1⟩
def csK16:List Ent:=[entIn16,entRR16] theorem hcsK16 (f:FuncId):findEnt csK16 f=findEnt [entIn16,entRR16] f:=rfl
theorem conKp16:Con Tryz.prog entKp16:=by
 refine con_is (C:=csK16) x135 (by kernel_rfl) (by simp [csK16,conIn16,conRR16]) fun x hx hf=>?_
 obtain ⟨⟨(W:List DWin),(L:List DLeg),(R:List DRide)⟩,(t:List Int),_⟩:=x
 dsimp only [entKp16,x135,Z12,Z3,Zb,Ze,Zg];simp only [↓hcsK16,entIn16,entRR16,go_sem,YA,YS,YM,YL,YE,YD,YB,YN,YR,reduceIte,reduceCtorEq,↓reduceIte];try simp only [td,reduceCtorEq]
 have hW:W.length≤9223372036854775807:=hf.1.1.1
 have hno:(keepsF (W,L,R) t=true→False)→false=keepsF (W,L,R) t:=fun h=>by
  symm
  rw [← Bool.not_eq_true]
  exact h
 refine ⟨fun h=>hno fun q=>?_,?_⟩
 ·obtain ⟨q1,q2,_⟩:=keepsF_iff.1 q
  rcases h with h | h
  ·rw [h] at q1;cases q1
  ·exact h q2
 rintro ⟨hr,hl⟩
 have hc:=(rightC_iff.1 hr).1
 dsimp only at hc
 refine XW_for 1000 x135_0d [0] Nat (fun j=>[(5,.val (.int .i64) (j:Int))]) (fun _=>[]) (fun j=>j≤t.length∧∀ k,k < j→(W.getD k (0,0)).1≤t.getD k 0∧t.getD k 0≤(W.getD k (0,0)).2) (fun j=>t.length - j) 0 ?_ ?_ ?_
 ·dsimp only [x135_0d]
  simp only [go_sem,YA,YS,YM,YL,YE,YD,YB,YN,YR,reduceIte,reduceCtorEq,↓reduceIte]
  try trivial
 ·exact ⟨Nat.zero_le _,fun k hk=>absurd hk (Nat.not_lt_zero _)⟩
 rintro j ⟨hj,hn⟩
 have w2:j < t.length→IntKind.i64.wrap ((j:Int)+1)=((j+1:Nat):Int):=fun h=>i64_in _ (by omega)
 dsimp only [x135_0,x135_0d,Z1,Z2,Z3,Za,Zb,Zc,Zf]
 simp only [↓hcsK16,entIn16,entRR16,go_sem,YA,YS,YM,YL,YE,YD,YB,YN,YR,reduceIte,reduceCtorEq,↓reduceIte]
 try simp only [td,reduceCtorEq]
 have ht0:(¬ j < t.length)→∀ k,0≤t.getD k 0∧t.getD k 0≤1048576:=fun hj' k=>by
  by_cases c:k < W.length
  ·have h1:=hn k (by omega)
   have h2:=right_win hr (k:=k) c
   dsimp only at h2
   omega
  ·rw [List.getD_eq_getElem?_getD,List.getElem?_eq_none (by omega)]
   exact ⟨Int.le_refl _,by show (0:Int)≤1048576;omega⟩
 refine ⟨fun hj'=>⟨⟨hj',by omega⟩,fun q=>?_,fun q=>⟨j+1,by omega,⟨hj',fun k hk=>?_⟩,w2 hj'⟩⟩,fun hj'=>?_⟩
 ·refine hno fun q2=>?_
  have:=(keepsF_iff.1 q2).2.2.1 j (by dsimp only;omega)
  dsimp only at this
  have z:in3 (t.getD j 0) (W.getD j (0,0)).1 (W.getD j (0,0)).2=true:=decide_eq_true this
  rw [q] at z
  cases z
 ·by_cases c:k=j
  ·subst c;exact of_decide_eq_true q
  ·exact hn k (by omega)
 have ht0:=ht0 hj'
 refine XW_for 2000 x135_1d [0] Nat (fun i=>[(6,.val (.int .i64) (i:Int))]) (fun _=>[]) (fun i=>i≤R.length∧∀ k,k < i→t.getD (R.getD k (0,0,0)).2.1.toNat 0 - t.getD (R.getD k (0,0,0)).1.toNat 0≤(R.getD k (0,0,0)).2.2) (fun i=>R.length - i) 0 ?_ ?_ ?_
 ·dsimp only [x135_1d]
  simp only [go_sem,YA,YS,YM,YL,YE,YD,YB,YN,YR,reduceIte,reduceCtorEq,↓reduceIte]
  try trivial
 ·exact ⟨Nat.zero_le _,fun k hk=>absurd hk (Nat.not_lt_zero _)⟩
 rintro i ⟨hi,hm⟩
 have w3:i < R.length→IntKind.i64.wrap ((i:Int)+1)=((i+1:Nat):Int):=fun h=>by
  have:=hc.2.2.2
  exact i64_in _ (by omega)
 dsimp only [x135_1,x135_1d,Z1,Z10,Z5,Za,Zb,Zc,Zd,Zf]
 simp only [↓hcsK16,entIn16,entRR16,go_sem,YA,YS,YM,YL,YE,YD,YB,YN,YR,reduceIte,reduceCtorEq,↓reduceIte]
 try simp only [td,reduceCtorEq]
 refine ⟨fun hi'=>?_,fun hi'=>?_⟩
 ·have hrd:=right_ride hr (k:=i) hi'
  dsimp only at hrd
  have e1:=ht0 (R.getD i (0,0,0)).2.1.toNat
  have e2:=ht0 (R.getD i (0,0,0)).1.toNat
  have hw:IntKind.i64.wrap (t.getD (R.getD i (0,0,0)).2.1.toNat 0 - t.getD (R.getD i (0,0,0)).1.toNat 0)=t.getD (R.getD i (0,0,0)).2.1.toNat 0 - t.getD (R.getD i (0,0,0)).1.toNat 0:=i64_in _ (by omega)
  rw [hw]
  refine ⟨hi',⟨⟨by omega,by omega⟩,by omega,by omega⟩,fun q=>hno fun q2=>?_,fun q=>⟨i+1,by omega,⟨hi',fun k hk=>?_⟩,w3 hi'⟩⟩
  ·have:=(keepsF_iff.1 q2).2.2.2 _ (getD_mem2 (d:=(0,0,0)) hi')
   dsimp only at this
   omega
  ·by_cases c:k=i
   ·subst c;exact q
   ·exact hm k (by omega)
 ·symm
  refine keepsF_iff.2 ⟨hr,hl,fun k hk=>hn k (by dsimp only at hk;omega),fun r hrm=>?_⟩
  obtain ⟨k,hk,rfl⟩:=List.getElem_of_mem hrm
  have h1:=hm k (by dsimp only at hk;omega)
  have:R.getD k (0,0,0)=R[k]:=by simp [List.getD,hk]
  rw [this] at h1
  exact h1
def entInt16:Ent:=⟨36,.cons (.sl (.int .i64)) (.cons (.sl (.int .i64)) .nil),.bool,false,none,fun _=>True,fun x=>decide ((x.1:List Int)=x.2.1)⟩
def csI16:List Ent:=[] theorem hcsI16 (f:FuncId):findEnt csI16 f=findEnt [] f:=rfl
theorem conInt16:Con Tryz.prog entInt16:=by
 refine con_is (C:=csI16) x36 (by kernel_rfl) (by simp [csI16]) fun x hx hf=>?_
 obtain ⟨(a:List Int),(b:List Int),_⟩:=x
 have hal:a.length≤9223372036854775807:=hf.1.1
 dsimp only [entInt16,x36,Zb,Zg];simp only [↓hcsI16,go_sem,YA,YS,YM,YL,YE,YD,YB,YN,YR,reduceIte,reduceCtorEq,↓reduceIte];try simp only [td,reduceCtorEq]
 refine ⟨fun h=>(decide_eq_false fun e=>h (by rw [e])).symm,fun h=>?_⟩
 refine XW_for 1000 x36_0d [] Nat (fun k=>[(5,.val (.int .i64) (k:Int))]) (fun _=>[]) (fun k=>k≤a.length∧∀ j,j < k→a.getD j 0=b.getD j 0) (fun k=>a.length - k) 0 ?_ ?_ ?_
 ·dsimp only [x36_0d];simp only [go_sem,YA,YS,YM,YL,YE,YD,YB,YN,YR,reduceIte,reduceCtorEq,↓reduceIte]
  rfl
 ·exact ⟨by omega,fun j hj=>by omega⟩
 ·intro k hk
  dsimp only [x36_0,x36_0d,Z1,Za,Zf];simp only [go_sem,YA,YS,YM,YL,YE,YD,YB,YN,YR,reduceIte,reduceCtorEq,↓reduceIte]
  by_cases hkl:k < a.length
  ·simp only [hkl,← h,td,reduceCtorEq]
   refine ⟨fun e=>(decide_eq_false fun q=>e (by rw [q])).symm,fun e=>⟨k+1,by omega,⟨by omega,fun j hj=>?_⟩,i64_in _ (by omega)⟩⟩
   rcases Nat.lt_succ_iff_lt_or_eq.1 hj with h' | rfl
   ·exact hk.2 j h'
   ·exact e
  ·simp only [hkl,td,reduceCtorEq]
   refine (decide_eq_true (List.ext_getElem h fun j h1 h2=>?_)).symm
   have:=hk.2 j (by omega)
   simpa [List.getD,h1,h2] using this
end T
end
section
open Go.RowKit Go.IntWalk
namespace T
theorem range_map_s2 {α:Type} (f:Nat→α) (j:Nat):(List.range j).map f ++ [f j]=(List.range (j+1)).map f:=by
 rw [List.range_succ,List.map_append];rfl
def entLw20:Ent:=⟨95,.cons (.sl (.st (.cons (.int .i64) (.int .i64)))) .nil,(.sl (.int .i64)),false,none,fun x=>List.length (α:=DLeg) x.1≤1000,fun x=>lowsF x.1⟩
def csLw20:List Ent:=[] theorem hcsLw20 (f:FuncId):findEnt csLw20 f=findEnt [] f:=rfl
theorem conLw20:Con Tryz.prog entLw20:=by
 refine con_is (C:=csLw20) x95 (by kernel_rfl) (by simp [csLw20]) fun x hx hf=>?_
 obtain ⟨(L:List DLeg),_⟩:=x
 have hL:L.length≤1000:=hx
 dsimp only [entLw20,x95,Z1,Za];simp only [↓hcsLw20,go_sem,YA,YS,YM,YL,YE,YD,YB,YN,YR,reduceIte,reduceCtorEq,↓reduceIte];try simp only [td,reduceCtorEq]
 refine XW_for 1000 x95_0d [] Nat (fun j=>[(7,.val (.int .i64) (j:Int)),(2,.own 0)]) (fun j=>[(0,.row 3 (.int .i64) ((lowsF L).take j))]) (fun j=>j≤L.length) (fun j=>L.length - j) 0 ?_ ?_ ?_
 ·dsimp only [x95_0d]
  simp only [go_sem,YA,YS,YM,YL,YE,YD,YB,YN,YR,reduceIte,reduceCtorEq,↓reduceIte]
  try trivial
 ·exact Nat.zero_le _
 intro j hj
 have w2:j < L.length→IntKind.i64.wrap ((j:Int)+1)=((j+1:Nat):Int):=fun h=>i64_in _ (by omega)
 have hs:j < L.length→(lowsF L).take j ++ [(L.getD j (0,0)).1]=(lowsF L).take (j+1):=fun h=>by
  rw [List.take_succ_eq_append_getElem (by rw [lows_len];exact h),← lows_getD]
  simp [List.getD,lows_len,h]
 have hlt:((lowsF L).take j).length=j:=by rw [List.length_take,lows_len];omega
 dsimp only [x95_0,x95_0d,Z1,Z2,Za,Zb]
 simp only [↓hcsLw20,hlt,go_sem,YA,YS,YM,YL,YE,YD,YB,YN,YR,reduceIte,reduceCtorEq,↓reduceIte]
 try simp only [hlt,td,reduceCtorEq]
 refine ⟨fun hj'=>⟨hj',by omega,j+1,by omega,hj',w2 hj',hs hj'⟩,fun hj'=>?_⟩
 exact List.take_of_length_le (by rw [lows_len];omega)
def entHg20:Ent:=⟨96,.cons (.sl (.st (.cons (.int .i64) (.int .i64)))) .nil,(.sl (.int .i64)),false,none,fun x=>List.length (α:=DLeg) x.1≤1000,fun x=>highsF x.1⟩
def csHg20:List Ent:=[] theorem hcsHg20 (f:FuncId):findEnt csHg20 f=findEnt [] f:=rfl
theorem conHg20:Con Tryz.prog entHg20:=by
 refine con_is (C:=csHg20) x96 (by kernel_rfl) (by simp [csHg20]) fun x hx hf=>?_
 obtain ⟨(L:List DLeg),_⟩:=x
 have hL:L.length≤1000:=hx
 dsimp only [entHg20,x96,Z1,Za];simp only [↓hcsHg20,go_sem,YA,YS,YM,YL,YE,YD,YB,YN,YR,reduceIte,reduceCtorEq,↓reduceIte];try simp only [td,reduceCtorEq]
 refine XW_for 1000 x96_0d [] Nat (fun j=>[(7,.val (.int .i64) (j:Int)),(2,.own 0)]) (fun j=>[(0,.row 3 (.int .i64) ((highsF L).take j))]) (fun j=>j≤L.length) (fun j=>L.length - j) 0 ?_ ?_ ?_
 ·dsimp only [x96_0d]
  simp only [go_sem,YA,YS,YM,YL,YE,YD,YB,YN,YR,reduceIte,reduceCtorEq,↓reduceIte]
  try trivial
 ·exact Nat.zero_le _
 intro j hj
 have w2:j < L.length→IntKind.i64.wrap ((j:Int)+1)=((j+1:Nat):Int):=fun h=>i64_in _ (by omega)
 have hs:j < L.length→(highsF L).take j ++ [(L.getD j (0,0)).2]=(highsF L).take (j+1):=fun h=>by
  rw [List.take_succ_eq_append_getElem (by rw [highs_len];exact h),← highs_getD]
  simp [List.getD,highs_len,h]
 have hlt:((highsF L).take j).length=j:=by rw [List.length_take,highs_len];omega
 dsimp only [x96_0,x96_0d,Z1,Z2,Za,Zb]
 simp only [↓hcsHg20,hlt,go_sem,YA,YS,YM,YL,YE,YD,YB,YN,YR,reduceIte,reduceCtorEq,↓reduceIte]
 try simp only [hlt,td,reduceCtorEq]
 refine ⟨fun hj'=>⟨hj',by omega,j+1,by omega,hj',w2 hj',hs hj'⟩,fun hj'=>?_⟩
 exact List.take_of_length_le (by rw [highs_len];omega)
def entRst:Ent:=⟨47,.cons (.st (.cons (.int .i64) (.cons (.sl (.st (.cons (.int .i64) (.cons (.int .i64) (.cons (.sl (.int .i64)) (.sl (.int .i64))))))) (.cons (.sl (.st (.cons (.int .i64) (.cons (.int .i64) (.cons (.int .i64) (.cons (.int .i64) (.cons (.int .i64) (.cons (.int .i64) (.cons (.int .i64) (.cons (.int .i64) (.int .i64))))))))))) (.cons (.sl (.st (.cons (.int .i64) (.cons (.int .i64) (.cons (.int .i64) (.cons (.int .i64) (.cons (.int .i64) (.cons (.int .i64) (.cons (.int .i64) (.cons (.int .i64) (.cons (.int .i64) (.int .i64)))))))))))) (.cons (.sl (.st (.cons (.int .i64) (.cons (.int .i64) .bool)))) (.st (.cons (.int .i64) (.cons (.int .i64) (.int .i64)))))))))) (.cons (.st (.cons (.sl (.st (.cons (.int .i64) (.int .i64)))) (.cons (.sl (.st (.cons (.int .i64) (.int .i64)))) (.sl (.st (.cons (.int .i64) (.cons (.int .i64) (.int .i64)))))))) (.cons (.sl (.int .i64)) .nil)),.bool,false,none,fun x=>fitsG x.2.1 x.2.2.1=true,fun x=>restsF x.1 x.2.1 x.2.2.1⟩
def csRst:List Ent:=[entLw20,entHg20,entRun,entWCk] theorem hcsRst (f:FuncId):findEnt csRst f=findEnt [entLw20,entHg20,entRun,entWCk] f:=rfl
theorem conRst:Con Tryz.prog entRst:=by
 refine con_is (C:=csRst) x47 (by kernel_rfl) (by simp [csRst,conLw20,conHg20,conRun,conWCk]) fun x hx hf=>?_
 obtain ⟨⟨(N:Int),(A:List DArc),(C:List DCar),(Q:List DReq),(P:List DPair),(S1:Int),(S2:Int),(S3:Int)⟩,⟨(W:List DWin),(L:List DLeg),(R:List DRide)⟩,(g:List Int),_⟩:=x
 replace hx:fitsG (W,L,R) g=true:=hx
 obtain ⟨hr,hgl,hgw⟩:=fitsG_iff.1 hx
 have hlen:=(rightC_iff.1 hr).1
 dsimp only at hgl hlen
 have h1:rnF (W,L,R) g (lowsF L)=(playF g (lowsF L),0):=rn_lows hx
 have h2:rnF (W,L,R) g (highsF L)=(playF g (highsF L),0):=rn_highs hx
 have hLl:L.length≤1000:=by omega
 have hLi:(L.length:Int)≤1000:=by omega
 dsimp only [entRst,x47,Z12,Z2,Z3,Z5,Za,Zb,Zc,Zd,Zf,Zg];simp only [↓hcsRst,entLw20,entHg20,entRun,entWCk,h1,h2,hLl,hLi,go_sem,YA,YS,YM,YL,YE,YD,YB,YN,YR,reduceIte,reduceCtorEq,↓reduceIte]
 try simp only [h1,h2,hLl,hLi,td,reduceCtorEq]
 refine ⟨by omega,?_⟩
 have hbd:∀ {t:List Int},Within 0 1048576 t→t.length=L.length→∀ k,0≤(playF g t).getD k 0∧(playF g t).getD k 0≤100000000:=fun {t} ht hl k=>by
  rcases Nat.lt_or_ge t.length k with q | q
  ·rw [List.getD_eq_getElem?_getD,List.getElem?_eq_none (by rw [playF_len];omega)]
   exact ⟨Int.le_refl _,by decide⟩
  ·rw [playF_getD g t q]
   have:=tmF_bd hgw ht k
   omega
 have hH:=hbd (highs_within hr) (highs_len L)
 have hE:=hbd (took_within hr (legs_took hr).1) (lows_len L)
 dsimp only at hH hE
 have hHl:(playF g (highsF L)).length=L.length+1:=by rw [playF_len,highs_len]
 have hEl:(playF g (lowsF L)).length=L.length+1:=by rw [playF_len,lows_len]
 have hres:restsF (N,A,C,Q,P,S1,S2,S3) (W,L,R) g=decide ((checkK (S1,S2,S3) L (waitsF (W,L,R) g)).2=0):=rfl
 refine XW_for 1000 x47_0d [0,1] Nat (fun j=>[(12,.val (.int .i64) (j:Int))]) (fun j=>[(28,.row 95 (.st (.cons (.int .i64) (.int .i64))) (waitsTo (W,L,R) g j))]) (fun j=>1≤j∧j≤L.length+1) (fun j=>L.length+1 - j) 1 ?_ ?_ ?_
 ·dsimp only [x47_0d]
  simp only [go_sem,YA,YS,YM,YL,YE,YD,YB,YN,YR,reduceIte,reduceCtorEq,↓reduceIte]
  exact ⟨rfl,(waitsTo_1 (W,L,R) g).symm⟩
 ·exact ⟨Nat.le_refl _,by omega⟩
 rintro j ⟨hj1,hj2⟩
 have hwl:(waitsTo (W,L,R) g j).length=L.length:=waitsTo_len _ _ _
 by_cases hjl:j < L.length
 ·have w2:IntKind.i64.wrap ((j:Int)+1)=((j+1:Nat):Int):=i64_in _ (by omega)
  have w3:IntKind.i64.wrap ((j:Int) - 1)=((j - 1:Nat):Int):=(i64_in _ (by omega)).trans (by omega)
  have hlg:=right_leg hr (k:=j - 1) (show j - 1 < L.length by omega)
  replace hlg:0≤(L.getD (j - 1) (0,0)).1∧(L.getD (j - 1) (0,0)).1≤(L.getD (j - 1) (0,0)).2∧(L.getD (j - 1) (0,0)).2≤1048576:=hlg
  have b1:=hH j
  have b2:=hH (j - 1)
  have b3:=hE j
  have b4:=hE (j - 1)
  have hat:waitAt (W,L,R) g j=((playF g (highsF L)).getD j 0 - (playF g (highsF L)).getD (j - 1) 0 - (L.getD (j - 1) (0,0)).2,(playF g (lowsF L)).getD j 0 - (playF g (lowsF L)).getD (j - 1) 0 - (L.getD (j - 1) (0,0)).1):=by
   unfold waitAt;rw [if_neg (by omega)]
  have hset:=waitsTo_set (W,L,R) g j
  rw [hat] at hset
  have v1:IntKind.i64.wrap ((playF g (highsF L)).getD j 0 - (playF g (highsF L)).getD (j - 1) 0)=(playF g (highsF L)).getD j 0 - (playF g (highsF L)).getD (j - 1) 0:=i64_in _ (by omega)
  have v2:IntKind.i64.wrap ((playF g (highsF L)).getD j 0 - (playF g (highsF L)).getD (j - 1) 0 - (L.getD (j - 1) (0,0)).2)=(playF g (highsF L)).getD j 0 - (playF g (highsF L)).getD (j - 1) 0 - (L.getD (j - 1) (0,0)).2:=i64_in _ (by omega)
  have v3:IntKind.i64.wrap ((playF g (lowsF L)).getD j 0 - (playF g (lowsF L)).getD (j - 1) 0)=(playF g (lowsF L)).getD j 0 - (playF g (lowsF L)).getD (j - 1) 0:=i64_in _ (by omega)
  have v4:IntKind.i64.wrap ((playF g (lowsF L)).getD j 0 - (playF g (lowsF L)).getD (j - 1) 0 - (L.getD (j - 1) (0,0)).1)=(playF g (lowsF L)).getD j 0 - (playF g (lowsF L)).getD (j - 1) 0 - (L.getD (j - 1) (0,0)).1:=i64_in _ (by omega)
  dsimp only [x47_0,x47_0d,Z1,Z2,Z3,Za,Zb,Zc,Zf];simp only [↓hcsRst,entLw20,entHg20,entRun,entWCk,hwl,hHl,hEl,hjl,w2,w3,v1,v2,v3,v4,Int.toNat_natCast,go_sem,YA,YS,YM,YL,YE,YD,YB,YN,YR,reduceIte,reduceCtorEq,↓reduceIte]
  simp only [hwl,hHl,hEl,hjl,w2,w3,v1,v2,v3,v4,hset,Int.toNat_natCast,td,reduceCtorEq]
  exact ⟨by omega,j+1,by omega,⟨by omega,by omega⟩,rfl,rfl⟩
 ·have hall:=waitsTo_all (W,L,R) g (j:=j) (Nat.le_of_not_lt hjl)
  have hck:∀ l,(checkK (S1,S2,S3) L l).2=(checkK (S1,S2,S3) L l).2:=fun _=>rfl
  dsimp only [x47_0,x47_0d,Z1,Z2,Z3,Za,Zb,Zc,Zf];simp only [↓hcsRst,entLw20,entHg20,entRun,entWCk,hwl,hjl,hall,hres,go_sem,YA,YS,YM,YL,YE,YD,YB,YN,YR,reduceIte,reduceCtorEq,↓reduceIte]
  try simp only [hwl,hjl,hall,hres,td,reduceCtorEq]
  have hwf:(waitsF (W,L,R) g).length=L.length:=by unfold waitsF;rw [List.length_map,List.length_range]
  exact ⟨fun h=>absurd (by rw [← hwf];exact h) hjl,fun _=>by rw [Bool.eq_iff_iff,beq_iff_eq,decide_eq_true_eq]⟩
def entWt20:Ent:=⟨78,.cons (.st (.cons (.sl (.st (.cons (.int .i64) (.int .i64)))) (.cons (.sl (.st (.cons (.int .i64) (.int .i64)))) (.sl (.st (.cons (.int .i64) (.cons (.int .i64) (.int .i64)))))))) (.cons (.sl (.int .i64)) .nil),(.sl (.st (.cons (.int .i64) (.int .i64)))),false,none,fun x=>fitsG x.1 x.2.1=true,fun x=>waitsF x.1 x.2.1⟩
def csWt2:List Ent:=[entLs19,entHs19,entRun16] theorem hcsWt2 (f:FuncId):findEnt csWt2 f=findEnt [entLs19,entHs19,entRun16] f:=rfl
theorem conWt20:Con Tryz.prog entWt20:=by
 refine con_is (C:=csWt2) x78 (by kernel_rfl) (by simp [csWt2,conLs19,conHs19,conRun16]) fun x hx hf=>?_
 obtain ⟨⟨(W:List DWin),(L:List DLeg),(R:List DRide)⟩,(g:List Int),_⟩:=x
 replace hx:fitsG (W,L,R) g=true:=hx
 obtain ⟨hr,hgl,hgw⟩:=fitsG_iff.1 hx
 have hlen:=(rightC_iff.1 hr).1
 dsimp only at hgl hlen
 have h1:rnF (W,L,R) g (lowsF L)=(playF g (lowsF L),0):=rn_lows hx
 have h2:rnF (W,L,R) g (highsF L)=(playF g (highsF L),0):=rn_highs hx
 have hLl:L.length≤1000:=by omega
 dsimp only [entWt20,x78,Z12,Z2,Z3,Za,Zb,Zc,Zf,Zg];simp only [↓hcsWt2,entLs19,entHs19,entRun16,h1,h2,hLl,go_sem,YA,YS,YM,YL,YE,YD,YB,YN,YR,reduceIte,reduceCtorEq,↓reduceIte]
 try simp only [h1,h2,hLl,td,reduceCtorEq]
 have hbd:∀ {t:List Int},Within 0 1048576 t→t.length=L.length→∀ k,0≤(playF g t).getD k 0∧(playF g t).getD k 0≤100000000:=fun {t} ht hl k=>by
  rcases Nat.lt_or_ge t.length k with q | q
  ·rw [List.getD_eq_getElem?_getD,List.getElem?_eq_none (by rw [playF_len];omega)]
   exact ⟨Int.le_refl _,by decide⟩
  ·rw [playF_getD g t q]
   have:=tmF_bd hgw ht k
   omega
 have hH:=hbd (highs_within hr) (highs_len L)
 have hE:=hbd (took_within hr (legs_took hr).1) (lows_len L)
 dsimp only at hH hE
 have hHl:(playF g (highsF L)).length=L.length+1:=by rw [playF_len,highs_len]
 have hEl:(playF g (lowsF L)).length=L.length+1:=by rw [playF_len,lows_len]
 refine XW_for 1000 x78_0d [0] Nat (fun j=>[(10,.val (.int .i64) (j:Int)),(9,.own 24)]) (fun j=>[(24,.row 95 (.st (.cons (.int .i64) (.int .i64))) ((List.range j).map (waitAt (W,L,R) g)))]) (fun j=>j≤L.length) (fun j=>L.length - j) 0 ?_ ?_ ?_
 ·dsimp only [x78_0d]
  simp only [go_sem,YA,YS,YM,YL,YE,YD,YB,YN,YR,reduceIte,reduceCtorEq,↓reduceIte]
  try trivial
 ·exact Nat.zero_le _
 intro j hj
 have hwl:((List.range j).map (waitAt (W,L,R) g)).length=j:=by rw [List.length_map,List.length_range]
 have hms:=range_map_s2 (waitAt (W,L,R) g) j
 by_cases hjl:j < L.length
 ·have w2:IntKind.i64.wrap ((j:Int)+1)=((j+1:Nat):Int):=i64_in _ (by omega)
  by_cases hj0:j=0
  ·subst hj0
   have hat:waitAt (W,L,R) g 0=(0,0):=rfl
   rw [hat] at hms
   dsimp only [x78_0,x78_0d,Z1,Z2,Z3,Za,Zb,Zc,Zf];simp only [↓hcsWt2,entLs19,entHs19,entRun16,hwl,hHl,hEl,hjl,w2,Int.toNat_natCast,Int.natCast_zero,go_sem,YA,YS,YM,YL,YE,YD,YB,YN,YR,reduceIte,reduceCtorEq,↓reduceIte]
   simp only [hwl,hHl,hEl,hjl,w2,hms,Int.toNat_natCast,Int.natCast_zero,td,reduceCtorEq]
   exact ⟨fun _=>⟨1,by omega,by omega,by decide,rfl⟩,fun h=>by omega⟩
  have hj0':¬ (j:Int)=0:=by omega
  have w3:IntKind.i64.wrap ((j:Int) - 1)=((j - 1:Nat):Int):=(i64_in _ (by omega)).trans (by omega)
  have hlg:=right_leg hr (k:=j - 1) (show j - 1 < L.length by omega)
  replace hlg:0≤(L.getD (j - 1) (0,0)).1∧(L.getD (j - 1) (0,0)).1≤(L.getD (j - 1) (0,0)).2∧(L.getD (j - 1) (0,0)).2≤1048576:=hlg
  have b1:=hH j
  have b2:=hH (j - 1)
  have b3:=hE j
  have b4:=hE (j - 1)
  have hat:waitAt (W,L,R) g j=((playF g (highsF L)).getD j 0 - (playF g (highsF L)).getD (j - 1) 0 - (L.getD (j - 1) (0,0)).2,(playF g (lowsF L)).getD j 0 - (playF g (lowsF L)).getD (j - 1) 0 - (L.getD (j - 1) (0,0)).1):=by
   unfold waitAt;rw [if_neg hj0]
  rw [hat] at hms
  have v1:IntKind.i64.wrap ((playF g (highsF L)).getD j 0 - (playF g (highsF L)).getD (j - 1) 0)=(playF g (highsF L)).getD j 0 - (playF g (highsF L)).getD (j - 1) 0:=i64_in _ (by omega)
  have v2:IntKind.i64.wrap ((playF g (highsF L)).getD j 0 - (playF g (highsF L)).getD (j - 1) 0 - (L.getD (j - 1) (0,0)).2)=(playF g (highsF L)).getD j 0 - (playF g (highsF L)).getD (j - 1) 0 - (L.getD (j - 1) (0,0)).2:=i64_in _ (by omega)
  have v3:IntKind.i64.wrap ((playF g (lowsF L)).getD j 0 - (playF g (lowsF L)).getD (j - 1) 0)=(playF g (lowsF L)).getD j 0 - (playF g (lowsF L)).getD (j - 1) 0:=i64_in _ (by omega)
  have v4:IntKind.i64.wrap ((playF g (lowsF L)).getD j 0 - (playF g (lowsF L)).getD (j - 1) 0 - (L.getD (j - 1) (0,0)).1)=(playF g (lowsF L)).getD j 0 - (playF g (lowsF L)).getD (j - 1) 0 - (L.getD (j - 1) (0,0)).1:=i64_in _ (by omega)
  dsimp only [x78_0,x78_0d,Z1,Z2,Z3,Za,Zb,Zc,Zf];simp only [↓hcsWt2,entLs19,entHs19,entRun16,hwl,hHl,hEl,hjl,hj0',w2,w3,v1,v2,v3,v4,Int.toNat_natCast,go_sem,YA,YS,YM,YL,YE,YD,YB,YN,YR,reduceIte,reduceCtorEq,↓reduceIte]
  simp only [hwl,hHl,hEl,hjl,hj0',w2,w3,v1,v2,v3,v4,hms,Int.toNat_natCast,td,reduceCtorEq]
  exact ⟨by omega,j+1,by omega,by omega,rfl,rfl⟩
 ·obtain rfl:j=L.length:=by omega
  dsimp only [x78_0,x78_0d,Z1,Z2,Z3,Za,Zb,Zc,Zf];simp only [↓hcsWt2,entLs19,entHs19,entRun16,hjl,go_sem,YA,YS,YM,YL,YE,YD,YB,YN,YR,reduceIte,reduceCtorEq,↓reduceIte]
  try simp only [hjl,td,reduceCtorEq]
  rfl
end T
end
section
open Go.RowKit Go.IntWalk
namespace T
def entCat:Ent:=⟨99,.cons (.sl (.sl (.int .i64))) .nil,(.sl (.int .i64)),false,none,fun x=>(x.1:List (List Int)).length≤1000∧∀ l ∈ (x.1:List (List Int)),l.length≤1000,fun x=>(x.1:List (List Int)).flatten⟩
def csCat:List Ent:=[entGrow0] theorem hcsCat (f:FuncId):findEnt csCat f=findEnt [entGrow0] f:=rfl
theorem flat_take {S:List (List Int)} {j:Nat} (h:j < S.length):(S.take j).flatten ++ S.getD j []=(S.take (j+1)).flatten:=by
 rw [List.take_succ_eq_append_getElem h,List.flatten_append]
 simp [List.getD,h]
theorem flat_len {S:List (List Int)} (h:∀ l ∈ S,l.length≤1000):∀ j,(S.take j).flatten.length≤1000 * j
 | 0=>by simp
 | j+1=>by
  rcases Nat.lt_or_ge j S.length with q | q
  ·rw [← flat_take q,List.length_append]
   have h1:=flat_len h j
   have h2:(S.getD j []).length≤1000:=h _ (by rw [List.getD_eq_getElem?_getD,List.getElem?_eq_getElem q];exact List.getElem_mem q)
   omega
  ·have h1:=flat_len h j
   rw [List.take_of_length_le (by omega)]
   rw [List.take_of_length_le q] at h1
   omega
set_option maxHeartbeats 1000000 in
theorem conCat:Con Tryz.prog entCat:=by
 refine con_is (C:=csCat) x99 (by kernel_rfl) (by simp [csCat,conGrow0]) fun x hx hf=>?_
 obtain ⟨(S:List (List Int)),_⟩:=x
 obtain ⟨hSl,hSe⟩:=hx
 replace hSl:S.length≤1000:=hSl
 replace hSe:∀ l ∈ S,l.length≤1000:=hSe
 dsimp only [entCat,x99,Z1,Za,Zb,Zg];simp only [↓hcsCat,entGrow0,go_sem,YA,YS,YM,YL,YE,YD,YB,YN,YR,reduceIte,reduceCtorEq,↓reduceIte]
 try simp only [td,reduceCtorEq]
 refine XW_for 1000 x99_0d [] Nat (fun j=>[(11,.val (.int .i64) (j:Int)),(3,.val (.int .i64) (((S.take j).flatten.length:Nat):Int))]) (fun _=>[]) (fun j=>j≤S.length) (fun j=>S.length - j) 0 ?_ ?_ ?_
 ·dsimp only [x99_0d];simp only [go_sem,YA,YS,YM,YL,YE,YD,YB,YN,YR,reduceIte,reduceCtorEq,↓reduceIte];try trivial
 ·exact Nat.zero_le _
 intro j hj
 by_cases hjl:j < S.length
 ·have w2:IntKind.i64.wrap ((j:Int)+1)=((j+1:Nat):Int):=i64_in _ (by omega)
  have h1:=flat_len hSe (j+1)
  have h2:(S.take (j+1)).flatten.length=(S.take j).flatten.length+(S.getD j []).length:=by rw [← flat_take hjl,List.length_append]
  have w3:IntKind.i64.wrap (((S.take j).flatten.length:Int)+((S.getD j []).length:Int))=(((S.take (j+1)).flatten.length:Nat):Int):=(i64_in _ (by omega)).trans (by omega)
  dsimp only [x99_0,x99_0d,Z11,Za,Zb,Zg];simp only [↓hcsCat,entGrow0,hjl,w2,w3,go_sem,YA,YS,YM,YL,YE,YD,YB,YN,YR,reduceIte,reduceCtorEq,↓reduceIte]
  simp only [hjl,w2,w3,td,reduceCtorEq]
  exact ⟨fun h=>by omega,j+1,by omega,by omega,rfl,rfl⟩
 ·obtain rfl:j=S.length:=by omega
  have hfl:(S.take S.length).flatten=S.flatten:=by rw [List.take_length]
  have h1:=flat_len hSe S.length
  rw [hfl] at h1
  have h2:(0:Int)≤(S.flatten.length:Int):=by omega
  have h3:(S.flatten.length:Int)≤1000000:=by omega
  dsimp only [x99_0,x99_0d,Z11,Za,Zb,Zg];simp only [↓hcsCat,entGrow0,hjl,hfl,h2,h3,go_sem,YA,YS,YM,YL,YE,YD,YB,YN,YR,reduceIte,reduceCtorEq,↓reduceIte]
  simp only [hjl,hfl,h2,h3,td,reduceCtorEq]
  refine XW_for 2000 x99_1d [] Nat (fun j=>[(27,.val (.int .i64) (j:Int)),(6,.own 1002)]) (fun j=>[(1002,.row 3 (.int .i64) (S.take j).flatten)]) (fun j=>j≤S.length) (fun j=>S.length - j) 0 ?_ ?_ ?_
  ·dsimp only [x99_1d];simp only [go_sem,YA,YS,YM,YL,YE,YD,YB,YN,YR,reduceIte,reduceCtorEq,↓reduceIte];try trivial
  ·exact Nat.zero_le _
  intro j hj
  by_cases hjl:j < S.length
  ·have w2:IntKind.i64.wrap ((j:Int)+1)=((j+1:Nat):Int):=i64_in _ (by omega)
   have hft:=flat_take hjl
   have h4:=flat_len hSe j
   have h5:(S.getD j []).length≤1000:=hSe _ (by rw [List.getD_eq_getElem?_getD,List.getElem?_eq_getElem hjl];exact List.getElem_mem hjl)
   dsimp only [x99_1,x99_1d,Z1,Z11,Za,Zb];simp only [↓hcsCat,entGrow0,hjl,w2,hft,go_sem,YA,YS,YM,YL,YE,YD,YB,YN,YR,reduceIte,reduceCtorEq,↓reduceIte]
   simp only [hjl,w2,hft,td,reduceCtorEq]
   refine ⟨?_,j+1,by omega,by omega,rfl,rfl⟩
   show ((S.take j).flatten.length+(S.getD j []).length) * 8≤140737488355328
   omega
  ·obtain rfl:j=S.length:=by omega
   dsimp only [x99_1,x99_1d,Z1,Z11,Za,Zb];simp only [↓hcsCat,entGrow0,hjl,hfl,go_sem,YA,YS,YM,YL,YE,YD,YB,YN,YR,reduceIte,reduceCtorEq,↓reduceIte]
   try simp only [hjl,hfl,td,reduceCtorEq]
end T
end
section
open Go.RowKit Go.IntWalk
namespace T
def cutF (c:DChain) (g:List Int) (low high:List Int) (k:Nat):Bool:=keepsF c (rnF c g (low.take k ++ high.drop k)).1
def entKp1:Ent:=⟨97,.cons (.int .i64) (.cons (.ptr (.st (.cons (.sl (.st (.cons (.int .i64) (.int .i64)))) (.cons (.sl (.st (.cons (.int .i64) (.int .i64)))) (.sl (.st (.cons (.int .i64) (.cons (.int .i64) (.int .i64))))))))) (.cons (.ptr (.sl (.int .i64))) (.cons (.ptr (.sl (.int .i64))) (.cons (.ptr (.sl (.int .i64))) .nil)))),.bool,false,none,
 fun x=>(0≤(x.1:Int)∧(x.1:Int)≤List.length (α:=Int) x.2.2.2.1)∧List.length (α:=Int) x.2.2.2.2.1=List.length (α:=Int) x.2.2.2.1∧List.length (α:=Int) x.2.2.2.1≤1000,fun x=>cutF x.2.1 x.2.2.1 x.2.2.2.1 x.2.2.2.2.1 (x.1:Int).toNat⟩
def csKp1:List Ent:=[entCat,entRun,entKeep] theorem hcsKp1 (f:FuncId):findEnt csKp1 f=findEnt [entCat,entRun,entKeep] f:=rfl
theorem conKp1:Con Tryz.prog entKp1:=by
 refine con_is (C:=csKp1) x97 (by kernel_rfl) (by simp [csKp1,conCat,conRun,conKeep]) fun x hx hf=>?_
 obtain ⟨(k:Int),⟨(W:List DWin),(L:List DLeg),(R:List DRide)⟩,(g:List Int),(lo:List Int),(hi:List Int),_⟩:=x
 obtain ⟨⟨h1,h2⟩,h3,h4⟩:=hx
 replace h1:0≤k:=h1
 replace h2:k≤(lo.length:Int):=h2
 replace h3:hi.length=lo.length:=h3
 replace h4:lo.length≤1000:=h4
 obtain ⟨k,rfl⟩:∃ z:Nat,k=z:=⟨k.toNat,by omega⟩
 have h5:(k:Int)≤(hi.length:Int):=by omega
 dsimp only [entKp1,x97,Z1,Z11,Z12,Za,Zc,Zd,Zf];simp only [↓hcsKp1,entCat,entRun,entKeep,undef,h1,h2,h3,h5,Int.toNat_natCast,go_sem,YA,YS,YM,YL,YE,YD,YB,YN,YR,reduceIte,reduceCtorEq,↓reduceIte]
 try simp only [h1,h2,h3,h5,Int.toNat_natCast,td,reduceCtorEq]
 have e1:hi.take lo.length=hi:=List.take_of_length_le (by omega)
 rw [e1]
 refine ⟨⟨Int.le_refl _,Int.le_refl _,fun l hl=>?_⟩,?_⟩
 ·rcases hl with rfl | rfl
  ·rw [List.length_take];omega
  ·rw [List.length_drop];omega
 ·unfold cutF
  rw [show [lo.take k,hi.drop k].flatten=lo.take k ++ hi.drop k by simp]
def keeps20 (c:DChain) (g:List Int):Bool :=
 (cutF c g (lowsF c.2.1) (highsF c.2.1) 0 && cutF c g (lowsF c.2.1) (highsF c.2.1) c.2.1.length) && c.2.2.all fun r=>cutF c g (lowsF c.2.1) (highsF c.2.1) r.1.toNat
def entKps:Ent:=⟨46,.cons (.st (.cons (.sl (.st (.cons (.int .i64) (.int .i64)))) (.cons (.sl (.st (.cons (.int .i64) (.int .i64)))) (.sl (.st (.cons (.int .i64) (.cons (.int .i64) (.int .i64)))))))) (.cons (.sl (.int .i64)) .nil),.bool,false,none,fun x=>rightC x.1=true,fun x=>keeps20 x.1 x.2.1⟩
def csKps:List Ent:=[entLw20,entHg20,entKp1] theorem hcsKps (f:FuncId):findEnt csKps f=findEnt [entLw20,entHg20,entKp1] f:=rfl
theorem conKps:Con Tryz.prog entKps:=by
 refine con_is (C:=csKps) u46 (by kernel_rfl) (by simp [csKps,conLw20,conHg20,conKp1]) fun x hx hf=>?_
 obtain ⟨⟨(W:List DWin),(L:List DLeg),(R:List DRide)⟩,(g:List Int),_⟩:=x
 replace hx:rightC (W,L,R)=true:=hx
 have hlen:=(rightC_iff.1 hx).1
 dsimp only at hlen
 have hLl:L.length≤1000:=by omega
 have hlo:(lowsF L).length=L.length:=lows_len L
 have hhi:(highsF L).length=L.length:=highs_len L
 have hL0:(0:Int)≤(L.length:Int):=by omega
 cases c1:cutF (W,L,R) g (lowsF L) (highsF L) 0 with
 | false =>
  have hz:keeps20 (W,L,R) g=false:=by unfold keeps20;dsimp only;rw [c1];rfl
  dsimp only [entKps,u46,u94,u154,u101,Z1,Z10,Z11,Z3,Za,Zb,Zc,Zg];simp only [↓hcsKps,entLw20,entHg20,entKp1,undef,hLl,hlo,hhi,hL0,c1,hz,Int.toNat_natCast,Int.toNat_zero,go_sem,YA,YS,YM,YL,YE,YD,YB,YN,YR,reduceIte,reduceCtorEq,↓reduceIte]
  try simp only [hLl,hlo,hhi,hL0,c1,hz,Int.toNat_natCast,Int.toNat_zero,td,reduceCtorEq]
  exact Int.le_refl _
 | true =>
  cases c2:cutF (W,L,R) g (lowsF L) (highsF L) L.length with
  | false =>
   have hz:keeps20 (W,L,R) g=false:=by unfold keeps20;dsimp only;rw [c1,c2];rfl
   dsimp only [entKps,u46,u94,u154,u101,Z1,Z10,Z11,Z3,Za,Zb,Zc,Zg];simp only [↓hcsKps,entLw20,entHg20,entKp1,undef,hLl,hlo,hhi,hL0,c1,c2,hz,Int.toNat_natCast,Int.toNat_zero,go_sem,YA,YS,YM,YL,YE,YD,YB,YN,YR,reduceIte,reduceCtorEq,↓reduceIte]
   try simp only [hLl,hlo,hhi,hL0,c1,c2,hz,Int.toNat_natCast,Int.toNat_zero,td,reduceCtorEq]
   exact ⟨Int.le_refl _,Int.le_refl _⟩
  | true =>
   have hz:keeps20 (W,L,R) g=R.all fun r=>cutF (W,L,R) g (lowsF L) (highsF L) r.1.toNat:=by unfold keeps20;dsimp only;rw [c1,c2];rfl
   dsimp only [entKps,u46,u94,u154,u101,Z1,Z10,Z11,Z3,Za,Zb,Zc,Zg];simp only [↓hcsKps,entLw20,entHg20,entKp1,undef,hLl,hlo,hhi,hL0,c1,c2,Int.toNat_natCast,Int.toNat_zero,go_sem,YA,YS,YM,YL,YE,YD,YB,YN,YR,reduceIte,reduceCtorEq,↓reduceIte]
   try simp only [hLl,hlo,hhi,hL0,c1,c2,Int.toNat_natCast,Int.toNat_zero,td,reduceCtorEq]
   refine ⟨⟨Int.le_refl _,Int.le_refl _⟩,?_⟩
   refine XW_for 1000 u154_0d [0,1,9,10,14] Nat (fun i=>[(8,.val (.int .i64) (i:Int))]) (fun _=>[]) (fun i=>i≤R.length∧∀ k,k < i→cutF (W,L,R) g (lowsF L) (highsF L) (R.getD k (0,0,0)).1.toNat=true) (fun i=>R.length - i) 0 ?_ ?_ ?_
   ·dsimp only [u154_0d];simp only [go_sem,YA,YS,YM,YL,YE,YD,YB,YN,YR,reduceIte,reduceCtorEq,↓reduceIte];try trivial
   ·exact ⟨Nat.zero_le _,fun k hk=>absurd hk (Nat.not_lt_zero _)⟩
   rintro i ⟨hi,hm⟩
   by_cases hil:i < R.length
   ·have w2:IntKind.i64.wrap ((i:Int)+1)=((i+1:Nat):Int):=i64_in _ (by omega)
    have hrd:=right_ride hx (k:=i) hil
    have hall:cutF (W,L,R) g (lowsF L) (highsF L) (R.getD i (0,0,0)).1.toNat=false→keeps20 (W,L,R) g=false:=fun h=>by
     rw [hz,List.all_eq_false]
     exact ⟨_,getD_mem2 (d:=(0,0,0)) hil,by rw [h];simp⟩
    dsimp only at hrd
    generalize hrr:R.getD i (0,0,0)=rr at hrd hall
    obtain ⟨r1,r2,r3⟩:=rr
    dsimp only at hrd hall
    have hr1:0≤r1:=hrd.1
    have hr2:r1≤(L.length:Int):=by omega
    cases c3:cutF (W,L,R) g (lowsF L) (highsF L) r1.toNat with
    | false =>
     replace hall:=hall c3
     dsimp only [u154_0,u154_0d,u46,u94,u154,u101,Z1,Z10,Z11,Z3,Z5,Za,Zb,Zc,Zg];simp only [↓hcsKps,entLw20,entHg20,entKp1,undef,hil,w2,hrr,hLl,hlo,hhi,hr1,hr2,c3,hall,go_sem,YA,YS,YM,YL,YE,YD,YB,YN,YR,reduceIte,reduceCtorEq,↓reduceIte]
     try simp only [hil,w2,hrr,hLl,hlo,hhi,hr1,hr2,c3,hall,td,reduceCtorEq]
    | true =>
     dsimp only [u154_0,u154_0d,u46,u94,u154,u101,Z1,Z10,Z11,Z3,Z5,Za,Zb,Zc,Zg];simp only [↓hcsKps,entLw20,entHg20,entKp1,undef,hil,w2,hrr,hLl,hlo,hhi,hr1,hr2,c3,go_sem,YA,YS,YM,YL,YE,YD,YB,YN,YR,reduceIte,reduceCtorEq,↓reduceIte]
     try simp only [hil,w2,hrr,hLl,hlo,hhi,hr1,hr2,c3,td,reduceCtorEq]
     refine ⟨i+1,by omega,⟨by omega,fun k hk=>?_⟩,rfl⟩
     rcases Nat.lt_or_ge k i with q | q
     ·exact hm k q
     ·rw [show k=i by omega,hrr];exact c3
   ·obtain rfl:i=R.length:=by omega
    have hz2:keeps20 (W,L,R) g=true:=by
     rw [hz,List.all_eq_true]
     intro r hrm
     obtain ⟨k,hk,rfl⟩:=List.getElem_of_mem hrm
     have h1:=hm k hk
     have:R.getD k (0,0,0)=R[k]:=by simp [List.getD,hk]
     rw [this] at h1
     exact h1
    dsimp only [u154_0,u154_0d,u46,u94,u154,u101,Z1,Z10,Z11,Z3,Z5,Za,Zb,Zc,Zg];simp only [↓hcsKps,entLw20,entHg20,entKp1,undef,hil,hz2,go_sem,YA,YS,YM,YL,YE,YD,YB,YN,YR,reduceIte,reduceCtorEq,↓reduceIte]
    try simp only [hil,hz2,td,reduceCtorEq]
    decide
end T
end
section
open Go.RowKit Go.IntWalk
namespace T
def entIdxFuncCar:Ent:=⟨115,.cons (.sl (.st (.cons (.int .i64) (.cons (.int .i64) (.cons (.int .i64) (.cons (.int .i64) (.cons (.int .i64) (.cons (.int .i64) (.cons (.int .i64) (.cons (.int .i64) (.int .i64))))))))))) (.cons (.fn (.st (.cons (.int .i64) (.cons (.int .i64) (.cons (.int .i64) (.cons (.int .i64) (.cons (.int .i64) (.cons (.int .i64) (.cons (.int .i64) (.cons (.int .i64) (.int .i64)))))))))) .bool) .nil),(.int .i64),false,none,fun _=>True,fun x=>idxF x.2.1 x.1⟩
theorem conIdxFuncCar:Con Tryz.prog entIdxFuncCar:=by
 refine con_is (C:=[]) x115 (by kernel_rfl) (by simp) fun x _ hf=>?_
 obtain ⟨(xs:List DCar),(p:DCar→Bool),_⟩:=x
 have hl:xs.length≤maxLen:=hf.1.1
 dsimp only [entIdxFuncCar,x115,Zb];simp only [go_sem,YA,YS,YM,YL,YE,YD,YB,YN,YR,reduceIte,reduceCtorEq,↓reduceIte]
 refine XW_for 1000 x115_0d [] Nat (fun k=>[(8,.val (.int .i64) (k:Int))]) (fun _=>[]) (fun k=>k≤xs.length∧∀ j,j < k→p (xs.getD j (0,0,0,0,0,0,0,0,0))=false) (fun k=>xs.length - k) 0 ?_ ?_ ?_
 ·dsimp only [x115_0d];simp only [go_sem,YA,YS,YM,YL,YE,YD,YB,YN,YR,reduceIte,reduceCtorEq,↓reduceIte]
  rfl
 ·exact ⟨by omega,fun j hj=>by omega⟩
 ·intro k hk
  dsimp only [x115_0,x115_0d,Z18,Za,Zg];simp only [go_sem,YA,YS,YM,YL,YE,YD,YB,YN,YR,reduceIte,reduceCtorEq,↓reduceIte]
  dsimp only [maxLen] at hl
  by_cases hkl:k < xs.length
  ·simp only [hkl,td,reduceCtorEq]
   refine ⟨fun h=>(idxF_at hkl hk.2 h).symm,fun h=>⟨k+1,by omega,⟨by omega,fun j hj=>?_⟩,i64_in _ (by omega)⟩⟩
   rcases Nat.lt_succ_iff_lt_or_eq.1 hj with h' | rfl
   ·exact hk.2 j h'
   ·exact h
  ·simp only [hkl,td,reduceCtorEq]
   exact (idxF_none fun j hj=>hk.2 j (by omega)).symm
def entConFuncCar:Ent:=⟨59,.cons (.sl (.st (.cons (.int .i64) (.cons (.int .i64) (.cons (.int .i64) (.cons (.int .i64) (.cons (.int .i64) (.cons (.int .i64) (.cons (.int .i64) (.cons (.int .i64) (.int .i64))))))))))) (.cons (.fn (.st (.cons (.int .i64) (.cons (.int .i64) (.cons (.int .i64) (.cons (.int .i64) (.cons (.int .i64) (.cons (.int .i64) (.cons (.int .i64) (.cons (.int .i64) (.int .i64)))))))))) .bool) .nil),.bool,false,none,fun _=>True,fun x=>x.1.any x.2.1⟩
theorem conConFuncCar:Con Tryz.prog entConFuncCar:=by
 refine con_is (C:=[entIdxFuncCar]) x59 (by kernel_rfl) (by simp [conIdxFuncCar]) fun x _ hf=>?_
 obtain ⟨(xs:List DCar),(p:DCar→Bool),_⟩:=x
 dsimp only [entConFuncCar,entIdxFuncCar,x59,Za];simp only [go_sem,YA,YS,YM,YL,YE,YD,YB,YN,YR,reduceIte,reduceCtorEq,↓reduceIte]
 refine eq_of_iff ?_
 rw [← idxF_any]
 simp
def entIdxFuncReq:Ent:=⟨116,.cons (.sl (.st (.cons (.int .i64) (.cons (.int .i64) (.cons (.int .i64) (.cons (.int .i64) (.cons (.int .i64) (.cons (.int .i64) (.cons (.int .i64) (.cons (.int .i64) (.cons (.int .i64) (.int .i64)))))))))))) (.cons (.fn (.st (.cons (.int .i64) (.cons (.int .i64) (.cons (.int .i64) (.cons (.int .i64) (.cons (.int .i64) (.cons (.int .i64) (.cons (.int .i64) (.cons (.int .i64) (.cons (.int .i64) (.int .i64))))))))))) .bool) .nil),(.int .i64),false,none,fun _=>True,fun x=>idxF x.2.1 x.1⟩
theorem conIdxFuncReq:Con Tryz.prog entIdxFuncReq:=by
 refine con_is (C:=[]) x116 (by kernel_rfl) (by simp) fun x _ hf=>?_
 obtain ⟨(xs:List DReq),(p:DReq→Bool),_⟩:=x
 have hl:xs.length≤maxLen:=hf.1.1
 dsimp only [entIdxFuncReq,x116,Zb];simp only [go_sem,YA,YS,YM,YL,YE,YD,YB,YN,YR,reduceIte,reduceCtorEq,↓reduceIte]
 refine XW_for 1000 x116_0d [] Nat (fun k=>[(8,.val (.int .i64) (k:Int))]) (fun _=>[]) (fun k=>k≤xs.length∧∀ j,j < k→p (xs.getD j dReq)=false) (fun k=>xs.length - k) 0 ?_ ?_ ?_
 ·dsimp only [x116_0d];simp only [go_sem,YA,YS,YM,YL,YE,YD,YB,YN,YR,reduceIte,reduceCtorEq,↓reduceIte]
  rfl
 ·exact ⟨by omega,fun j hj=>by omega⟩
 ·intro k hk
  dsimp only [x116_0,x116_0d,Z6,Za,Zg];simp only [go_sem,YA,YS,YM,YL,YE,YD,YB,YN,YR,reduceIte,reduceCtorEq,↓reduceIte]
  dsimp only [maxLen] at hl
  by_cases hkl:k < xs.length
  ·simp only [hkl,td,reduceCtorEq]
   refine ⟨fun h=>(idxF_at hkl hk.2 h).symm,fun h=>⟨k+1,by omega,⟨by omega,fun j hj=>?_⟩,i64_in _ (by omega)⟩⟩
   rcases Nat.lt_succ_iff_lt_or_eq.1 hj with h' | rfl
   ·exact hk.2 j h'
   ·exact h
  ·simp only [hkl,td,reduceCtorEq]
   exact (idxF_none fun j hj=>hk.2 j (by omega)).symm
def entConFuncReq:Ent:=⟨60,.cons (.sl (.st (.cons (.int .i64) (.cons (.int .i64) (.cons (.int .i64) (.cons (.int .i64) (.cons (.int .i64) (.cons (.int .i64) (.cons (.int .i64) (.cons (.int .i64) (.cons (.int .i64) (.int .i64)))))))))))) (.cons (.fn (.st (.cons (.int .i64) (.cons (.int .i64) (.cons (.int .i64) (.cons (.int .i64) (.cons (.int .i64) (.cons (.int .i64) (.cons (.int .i64) (.cons (.int .i64) (.cons (.int .i64) (.int .i64))))))))))) .bool) .nil),.bool,false,none,fun _=>True,fun x=>x.1.any x.2.1⟩
theorem conConFuncReq:Con Tryz.prog entConFuncReq:=by
 refine con_is (C:=[entIdxFuncReq]) x60 (by kernel_rfl) (by simp [conIdxFuncReq]) fun x _ hf=>?_
 obtain ⟨(xs:List DReq),(p:DReq→Bool),_⟩:=x
 dsimp only [entConFuncReq,entIdxFuncReq,x60,Za];simp only [go_sem,YA,YS,YM,YL,YE,YD,YB,YN,YR,reduceIte,reduceCtorEq,↓reduceIte]
 refine eq_of_iff ?_
 rw [← idxF_any]
 simp
def entIdxFuncPr:Ent:=⟨117,.cons (.sl (.st (.cons (.int .i64) (.cons (.int .i64) .bool)))) (.cons (.fn (.st (.cons (.int .i64) (.cons (.int .i64) .bool))) .bool) .nil),(.int .i64),false,none,fun _=>True,fun x=>idxF x.2.1 x.1⟩
theorem conIdxFuncPr:Con Tryz.prog entIdxFuncPr:=by
 refine con_is (C:=[]) x117 (by kernel_rfl) (by simp) fun x _ hf=>?_
 obtain ⟨(xs:List DPair),(p:DPair→Bool),_⟩:=x
 have hl:xs.length≤maxLen:=hf.1.1
 dsimp only [entIdxFuncPr,x117,Zb];simp only [go_sem,YA,YS,YM,YL,YE,YD,YB,YN,YR,reduceIte,reduceCtorEq,↓reduceIte]
 refine XW_for 1000 x117_0d [] Nat (fun k=>[(8,.val (.int .i64) (k:Int))]) (fun _=>[]) (fun k=>k≤xs.length∧∀ j,j < k→p (xs.getD j (0,0,false))=false) (fun k=>xs.length - k) 0 ?_ ?_ ?_
 ·dsimp only [x117_0d];simp only [go_sem,YA,YS,YM,YL,YE,YD,YB,YN,YR,reduceIte,reduceCtorEq,↓reduceIte]
  rfl
 ·exact ⟨by omega,fun j hj=>by omega⟩
 ·intro k hk
  dsimp only [x117_0,x117_0d,Z14,Za,Zg];simp only [go_sem,YA,YS,YM,YL,YE,YD,YB,YN,YR,reduceIte,reduceCtorEq,↓reduceIte]
  dsimp only [maxLen] at hl
  by_cases hkl:k < xs.length
  ·simp only [hkl,td,reduceCtorEq]
   refine ⟨fun h=>(idxF_at hkl hk.2 h).symm,fun h=>⟨k+1,by omega,⟨by omega,fun j hj=>?_⟩,i64_in _ (by omega)⟩⟩
   rcases Nat.lt_succ_iff_lt_or_eq.1 hj with h' | rfl
   ·exact hk.2 j h'
   ·exact h
  ·simp only [hkl,td,reduceCtorEq]
   exact (idxF_none fun j hj=>hk.2 j (by omega)).symm
def entConFuncPr:Ent:=⟨61,.cons (.sl (.st (.cons (.int .i64) (.cons (.int .i64) .bool)))) (.cons (.fn (.st (.cons (.int .i64) (.cons (.int .i64) .bool))) .bool) .nil),.bool,false,none,fun _=>True,fun x=>x.1.any x.2.1⟩
theorem conConFuncPr:Con Tryz.prog entConFuncPr:=by
 refine con_is (C:=[entIdxFuncPr]) x61 (by kernel_rfl) (by simp [conIdxFuncPr]) fun x _ hf=>?_
 obtain ⟨(xs:List DPair),(p:DPair→Bool),_⟩:=x
 dsimp only [entConFuncPr,entIdxFuncPr,x61,Za];simp only [go_sem,YA,YS,YM,YL,YE,YD,YB,YN,YR,reduceIte,reduceCtorEq,↓reduceIte]
 refine eq_of_iff ?_
 rw [← idxF_any]
 simp
def entPin1:Ent:=⟨88,.cons (.int .i64) (.cons (.ptr (.int .i64)) .nil),.bool,false,none,fun _=>True,fun x=>!decide (0≤(x.1:Int)∧(x.1:Int)≤(x.2.1:Int))⟩
def csPi1:List Ent:=[] theorem hcsPi1 (f:FuncId):findEnt csPi1 f=findEnt [] f:=rfl
theorem conPin1:Con Tryz.prog entPin1:=by
 refine con_is (C:=csPi1) x88 (by kernel_rfl) (by simp [csPi1]) fun x hx hf=>?_
 obtain ⟨(n:Int),(m:Int),_⟩:=x
 dsimp only [entPin1,x88,Z1,Za];simp only [↓hcsPi1,go_sem,YA,YS,YM,YL,YE,YD,YB,YN,YR,reduceIte,reduceCtorEq,↓reduceIte];try simp only [td,reduceCtorEq]
 rw [Bool.eq_iff_iff]
 simp
 try omega
def entPin:Ent:=⟨44,.cons (.int .i64) (.cons (.sl (.int .i64)) .nil),.bool,false,none,fun _=>True,fun x=>allIn x.1 x.2.1⟩
def csPin:List Ent:=[entPin1,entConFuncI] theorem hcsPin (f:FuncId):findEnt csPin f=findEnt [entPin1,entConFuncI] f:=rfl
theorem conPin:Con Tryz.prog entPin:=by
 refine con_is (C:=csPin) x44 (by kernel_rfl) (by simp [csPin,conPin1,conConFuncI]) fun x hx hf=>?_
 obtain ⟨(m:Int),(l:List Int),_⟩:=x
 dsimp only [entPin,x44,Zb];simp only [↓hcsPin,entPin1,entConFuncI,go_sem,YA,YS,YM,YL,YE,YD,YB,YN,YR,reduceIte,reduceCtorEq,↓reduceIte];try simp only [td,reduceCtorEq]
 unfold allIn
 rw [not_any]
def entPr1:Ent:=⟨56,.cons (.st (.cons (.int .i64) (.cons (.int .i64) (.cons (.int .i64) (.cons (.int .i64) (.cons (.int .i64) (.cons (.int .i64) (.cons (.int .i64) (.cons (.int .i64) (.int .i64)))))))))) (.cons (.ptr (.st (.cons (.int .i64) (.cons (.sl (.st (.cons (.int .i64) (.cons (.int .i64) (.cons (.sl (.int .i64)) (.sl (.int .i64))))))) (.cons (.sl (.st (.cons (.int .i64) (.cons (.int .i64) (.cons (.int .i64) (.cons (.int .i64) (.cons (.int .i64) (.cons (.int .i64) (.cons (.int .i64) (.cons (.int .i64) (.int .i64))))))))))) (.cons (.sl (.st (.cons (.int .i64) (.cons (.int .i64) (.cons (.int .i64) (.cons (.int .i64) (.cons (.int .i64) (.cons (.int .i64) (.cons (.int .i64) (.cons (.int .i64) (.cons (.int .i64) (.int .i64)))))))))))) (.cons (.sl (.st (.cons (.int .i64) (.cons (.int .i64) .bool)))) (.st (.cons (.int .i64) (.cons (.int .i64) (.int .i64))))))))))) .nil),.bool,false,none,fun _=>True,fun x=>!carB (IntKind.i64.wrap ((x.2.1:DWorld).1 - 1)) x.1⟩
def csPr1:List Ent:=[entPin] theorem hcsPr1 (f:FuncId):findEnt csPr1 f=findEnt [entPin] f:=rfl
set_option maxHeartbeats 4000000 in
theorem conPr1:Con Tryz.prog entPr1:=by
 refine con_is (C:=csPr1) x56 (by kernel_rfl) (by simp [csPr1,conPin]) fun x hx hf=>?_
 obtain ⟨⟨(o:Int),(n:Int),(r:Int),(e:Int),(s:Int),(c:Int),(b:Int),(g:Int),(f:Int)⟩,⟨(N:Int),(A:List DArc),(C:List DCar),(Q:List DReq),(P:List DPair),(S:DShift)⟩,_⟩:=x
 cases h1:allIn (IntKind.i64.wrap (N - 1)) [n] <;> cases h2:allIn 1048576 [r,e] <;> by_cases h3:r > e <;>
 ·have h3':=h3
  rw [gt_iff_lt] at h3'
  dsimp only [entPr1,x56,Z1,Za,Zb,Zc,Ze]
  simp only [↓hcsPr1,entPin,undef,h1,h2,h3,h3',go_sem,YA,YS,YM,YL,YE,YD,YB,YN,YR,reduceIte,reduceCtorEq,↓reduceIte]
  try simp only [h1,h2,h3,td,reduceCtorEq]
  unfold carB
  simp [h1,h2,h3]
  try omega
def entPr2:Ent:=⟨57,.cons (.st (.cons (.int .i64) (.cons (.int .i64) (.cons (.int .i64) (.cons (.int .i64) (.cons (.int .i64) (.cons (.int .i64) (.cons (.int .i64) (.cons (.int .i64) (.cons (.int .i64) (.int .i64))))))))))) (.cons (.ptr (.st (.cons (.int .i64) (.cons (.sl (.st (.cons (.int .i64) (.cons (.int .i64) (.cons (.sl (.int .i64)) (.sl (.int .i64))))))) (.cons (.sl (.st (.cons (.int .i64) (.cons (.int .i64) (.cons (.int .i64) (.cons (.int .i64) (.cons (.int .i64) (.cons (.int .i64) (.cons (.int .i64) (.cons (.int .i64) (.int .i64))))))))))) (.cons (.sl (.st (.cons (.int .i64) (.cons (.int .i64) (.cons (.int .i64) (.cons (.int .i64) (.cons (.int .i64) (.cons (.int .i64) (.cons (.int .i64) (.cons (.int .i64) (.cons (.int .i64) (.int .i64)))))))))))) (.cons (.sl (.st (.cons (.int .i64) (.cons (.int .i64) .bool)))) (.st (.cons (.int .i64) (.cons (.int .i64) (.int .i64))))))))))) .nil),.bool,false,none,fun _=>True,fun x=>!reqB (IntKind.i64.wrap ((x.2.1:DWorld).1 - 1)) x.1⟩
def csPr2:List Ent:=[entPin] theorem hcsPr2 (f:FuncId):findEnt csPr2 f=findEnt [entPin] f:=rfl
set_option maxHeartbeats 4000000 in
theorem conPr2:Con Tryz.prog entPr2:=by
 refine con_is (C:=csPr2) x57 (by kernel_rfl) (by simp [csPr2,conPin]) fun x hx hf=>?_
 obtain ⟨⟨(m:Int),(f:Int),(t:Int),(e:Int),(l:Int),(d:Int),(r:Int),(s:Int),(c:Int),(b:Int)⟩,⟨(N:Int),(A:List DArc),(C:List DCar),(Q:List DReq),(P:List DPair),(S:DShift)⟩,_⟩:=x
 cases h1:allIn 1048576 [e,l,d,r] <;> by_cases h2:e≤l <;> cases h3:allIn 3999 [m] <;> cases h4:allIn (IntKind.i64.wrap (N - 1)) [f,t] <;>
 ·dsimp only [entPr2,x57,Z1,Za,Zb,Zc,Zd,Ze]
  simp only [↓hcsPr2,entPin,undef,h1,h2,h3,h4,go_sem,YA,YS,YM,YL,YE,YD,YB,YN,YR,reduceIte,reduceCtorEq,↓reduceIte]
  try simp only [h1,h2,h3,h4,td,reduceCtorEq]
  unfold reqB
  simp [h1,h2,h3,h4]
def entPr3:Ent:=⟨58,.cons (.st (.cons (.int .i64) (.cons (.int .i64) .bool))) .nil,.bool,false,none,fun _=>True,fun x=>!prB x.1⟩
def csPr3:List Ent:=[entPin] theorem hcsPr3 (f:FuncId):findEnt csPr3 f=findEnt [entPin] f:=rfl
theorem conPr3:Con Tryz.prog entPr3:=by
 refine con_is (C:=csPr3) x58 (by kernel_rfl) (by simp [csPr3,conPin]) fun x hx hf=>?_
 obtain ⟨⟨(a:Int),(b:Int),(m:Bool)⟩,_⟩:=x
 dsimp only [entPr3,x58,Z1,Zb];simp only [↓hcsPr3,entPin,go_sem,YA,YS,YM,YL,YE,YD,YB,YN,YR,reduceIte,reduceCtorEq,↓reduceIte];try simp only [td,reduceCtorEq]
 rfl
def entPlR:Ent:=⟨26,.cons (.st (.cons (.int .i64) (.cons (.sl (.st (.cons (.int .i64) (.cons (.int .i64) (.cons (.sl (.int .i64)) (.sl (.int .i64))))))) (.cons (.sl (.st (.cons (.int .i64) (.cons (.int .i64) (.cons (.int .i64) (.cons (.int .i64) (.cons (.int .i64) (.cons (.int .i64) (.cons (.int .i64) (.cons (.int .i64) (.int .i64))))))))))) (.cons (.sl (.st (.cons (.int .i64) (.cons (.int .i64) (.cons (.int .i64) (.cons (.int .i64) (.cons (.int .i64) (.cons (.int .i64) (.cons (.int .i64) (.cons (.int .i64) (.cons (.int .i64) (.int .i64)))))))))))) (.cons (.sl (.st (.cons (.int .i64) (.cons (.int .i64) .bool)))) (.st (.cons (.int .i64) (.cons (.int .i64) (.int .i64)))))))))) .nil,.bool,false,none,fun _=>True,fun x=>rightP x.1⟩
def csPlR:List Ent:=[entRoad,entConFuncCar,entConFuncReq,entConFuncPr,entPr1,entPr2,entPr3,entWkR] theorem hcsPlR (f:FuncId):findEnt csPlR f=findEnt [entRoad,entConFuncCar,entConFuncReq,entConFuncPr,entPr1,entPr2,entPr3,entWkR] f:=rfl
theorem conPlR:Con Tryz.prog entPlR:=by
 refine con_is (C:=csPlR) x26 (by kernel_rfl) (by simp [csPlR,conRoad,conConFuncCar,conConFuncReq,conConFuncPr,conPr1,conPr2,conPr3,conWkR]) fun x hx hf=>?_
 obtain ⟨⟨(N:Int),(A:List DArc),(C:List DCar),(Q:List DReq),(P:List DPair),(S:DShift)⟩,_⟩:=x
 dsimp only [entPlR,x26,Z1,Z17,Z21,Z22,Z5,Z7,Za,Zb,Zc,Zd,Ze,Zg];simp only [↓hcsPlR,entRoad,entConFuncCar,entConFuncReq,entConFuncPr,entPr1,entPr2,entPr3,entWkR,go_sem,YA,YS,YM,YL,YE,YD,YB,YN,YR,reduceIte,reduceCtorEq,↓reduceIte];try simp only [td,reduceCtorEq]
 obtain ⟨S1,S2,S3⟩:=S
 refine ⟨fun h=>?_,?_⟩
 ·symm
  rw [← Bool.not_eq_true]
  intro q
  obtain ⟨q1,q2,_⟩:=rightP_iff.1 q
  dsimp only at q1 q2
  rcases h with ((h | h) | h) | h
  ·rw [h] at q1;cases q1
  ·omega
  ·omega
  ·omega
 ·rintro ⟨⟨⟨h1,h2⟩,h3⟩,h4⟩
  have hn:=rightR_n h1
  rw [i64_in (N - 1) (by omega),not_any,not_any,not_any]
  unfold rightP
  dsimp only
  rw [h1,decide_eq_true (by omega),Bool.true_and,Bool.true_and,Bool.and_assoc,Bool.and_assoc]
end T
end
section
open Go.RowKit Go.IntWalk
def revTo (zs:List Int):Nat→List Int
 | 0=>zs
 | k+1=>((revTo zs k).set k ((revTo zs k).getD (zs.length - 1 - k) 0)).set (zs.length - 1 - k) ((revTo zs k).getD k 0)
theorem revTo_length (zs:List Int):∀ k,(revTo zs k).length=zs.length
 | 0=>rfl
 | k+1=>by rw [revTo,List.length_set,List.length_set,revTo_length zs k]
theorem revTo_get (zs:List Int):∀ k,2 * k≤zs.length→∀ p,p < zs.length→(revTo zs k).getD p 0=if p < k∨zs.length - 1 - p < k then zs.getD (zs.length - 1 - p) 0 else zs.getD p 0
 | 0,_,p,_=>by rw [if_neg (by omega)];rfl
 | k+1,hk,p,hp=>by
  have ih:=revTo_get zs k (by omega)
  have hl:=revTo_length zs k
  rw [revTo,List.getD_eq_getElem?_getD,List.getElem?_set]
  by_cases c:zs.length - 1 - k=p
  ·rw [if_pos c,if_pos (by rw [List.length_set];omega),Option.getD_some,ih k (by omega),if_neg (by omega),if_pos (by omega),show zs.length - 1 - p=k by omega]
  ·rw [if_neg c,List.getElem?_set]
   by_cases d:k=p
   ·rw [if_pos d,if_pos (by omega),Option.getD_some,ih _ (by omega),if_neg (by omega),if_pos (by omega),d]
   ·rw [if_neg d,← List.getD_eq_getElem?_getD,ih p hp]
    by_cases e:p < k∨zs.length - 1 - p < k
    ·rw [if_pos e,if_pos (by omega)]
    ·rw [if_neg e,if_neg (by omega)]
theorem revTo_end (zs:List Int) {k:Nat} (hk:2 * k≤zs.length) (h:zs.length≤2 * k+1):revTo zs k=zs.reverse:=by
 apply List.ext_getElem
 ·rw [revTo_length,List.length_reverse]
 ·intro p h1 h2
  rw [revTo_length] at h1
  have h3:=revTo_get zs k hk p h1
  rw [List.getD_eq_getElem?_getD,List.getElem?_eq_getElem (by rw [revTo_length];exact h1),Option.getD_some] at h3
  rw [h3,List.getElem_reverse]
  split
  ·rw [List.getD_eq_getElem?_getD,List.getElem?_eq_getElem (by omega),Option.getD_some]
  ·have e:zs.length - 1 - p=p:=by omega
   simp only [e]
   rw [List.getD_eq_getElem?_getD,List.getElem?_eq_getElem h1,Option.getD_some]
namespace T
def entWay:Ent:=⟨110,.cons (.sl (.st (.cons (.int .i64) (.int .i64)))) (.cons (.sl (.st (.cons (.int .i64) (.cons (.int .i64) (.cons (.sl (.int .i64)) (.sl (.int .i64))))))) (.cons (.int .i64) .nil)),(.sl (.int .i64)),false,none,fun x=>List.length (α:=DLab) x.1≤100000,fun x=>wayF x.1 x.2.1 x.2.2.1⟩
def csWy:List Ent:=[] theorem hcsWy (f:FuncId):findEnt csWy f=findEnt [] f:=rfl
theorem conWay:Con Tryz.prog entWay:=by
 refine con_is (C:=csWy) x110 (by kernel_rfl) (by simp [csWy]) fun x hx hf=>?_
 obtain ⟨(L:List DLab),(A:List DArc),(to:Int),_⟩:=x
 dsimp only [entWay,x110,Z1,Z2,Za,Zb,Zc,Ze,Zg];simp only [↓hcsWy,go_sem,YA,YS,YM,YL,YE,YD,YB,YN,YR,reduceIte,reduceCtorEq,↓reduceIte]
 simp only [td,reduceCtorEq];try dsimp only [Ty.den]
 have hLl:L.length≤100000:=hx
 refine ⟨fun h=>?_,fun h=>?_⟩
 ·unfold wayF;rw [if_pos (or_assoc.1 h)]
 have e0:wayF L A to=wayGo L A L.length to []:=if_neg (by rintro (h2 | h2 | h2) <;> omega)
 rw [e0]
 refine XW_for 1000 x110_0d [17] (List Int × Int) (fun s=>[(7,.own 17),(2,.val (.int .i64) s.2)]) (fun s=>[(17,.row 3 (.int .i64) s.1)])
  (fun s=>(0≤s.2∧s.2 < L.length)∧s.1.length≤L.length∧wayGo L A (L.length - s.1.length) s.2 s.1.reverse=wayGo L A L.length to []) (fun s=>L.length - s.1.length) ([],to) ?_ ?_ ?_
 ·dsimp only [x110_0d]
  simp only [go_sem,YA,YS,YM,YL,YE,YD,YB,YN,YR,reduceIte,reduceCtorEq,↓reduceIte]
 ·exact ⟨⟨by omega,by omega⟩,Nat.zero_le _,rfl⟩
 ·rintro ⟨out,to'⟩ ⟨ht,hl,hgo⟩
  dsimp only at ht hl hgo
  dsimp only [x110_0,x110_0d,Z1,Z13,Z2,Za,Zb,Zc,Zd,Ze,Zg]
  simp only [↓hcsWy,go_sem,YA,YS,YM,YL,YE,YD,YB,YN,YR,reduceIte,reduceCtorEq,↓reduceIte]
  try simp only [td,reduceCtorEq]
  refine ⟨ht,fun h1=>⟨ht,⟨fun h=>⟨h,h.1⟩,fun h=>⟨h,h.1.1⟩⟩,fun h2=>?_,fun h2=>⟨by omega,h2.1.1.1.1,(out ++ [(L.getD to'.toNat (0,0)).2],(A.getD (L.getD to'.toNat (0,0)).2.toNat (0,0,[],[])).1),?_,⟨⟨h2.1.1.2,h2.1.2⟩,?_,?_⟩,rfl,rfl⟩⟩,fun h1=>?_⟩
  ·rw [← hgo]
   by_cases c:out.length=L.length
   ·rw [c,Nat.sub_self,wayGo,if_neg h1]
   ·obtain ⟨f,hf⟩:∃ f,L.length - out.length=f+1:=⟨L.length - out.length - 1,by omega⟩
    rw [hf,wayGo,if_neg h1,if_pos]
    rcases h2 with ((((h2 | h2) | h2) | h2) | h2) | h2
    ·exact .inl h2
    ·exact .inr (.inl h2)
    ·exact .inr (.inr (.inl h2))
    ·exact .inr (.inr (.inr (.inl h2)))
    ·exact .inr (.inr (.inr (.inr h2)))
    ·exact absurd h2 c
  ·dsimp only
   rw [List.length_append,List.length_singleton];omega
  ·dsimp only
   rw [List.length_append,List.length_singleton];omega
  ·dsimp only
   rw [← hgo,List.length_append,List.length_singleton,List.reverse_append]
   obtain ⟨f,hf⟩:∃ f,L.length - out.length=f+1:=⟨L.length - out.length - 1,by omega⟩
   rw [hf,show L.length - (out.length+1)=f by omega]
   conv=>rhs;rw [wayGo,if_neg h1,if_neg (by
    rintro (h3 | h3 | h3 | h3 | h3)
    ·omega
    ·omega
    ·exact h3 h2.1.1.1.2
    ·omega
    ·omega)]
   rfl
  ·have hd:wayGo L A L.length to []=out.reverse:=by
    rw [← hgo]
    cases L.length - out.length <;> rw [wayGo,if_pos h1]
   rw [hd]
   clear hgo hd
   dsimp only [x176,Zb]
   simp only [↓hcsWy,go_sem,YA,YS,YM,YL,YE,YD,YB,YN,YR,reduceIte,reduceCtorEq,↓reduceIte]
   try simp only [td,reduceCtorEq]
   refine XW_for 2000 x176_0d [17] Nat (fun k=>[(2,.val (.int .i64) (k:Int)),(3,.val (.int .i64) ((out.length:Int) - 1 - k))]) (fun k=>[(17,.row 3 (.int .i64) (revTo out k))]) (fun k=>2 * k≤out.length) (fun k=>out.length - k) 0 ?_ ?_ ?_
   ·dsimp only [x176_0d]
    simp only [go_sem,YA,YS,YM,YL,YE,YD,YB,YN,YR,reduceIte,reduceCtorEq,↓reduceIte]
    refine ⟨⟨rfl,?_⟩,rfl⟩
    rw [i64_in ((out.length:Int) - 1) (by omega)];show (out.length:Int) - 1=(out.length:Int) - 1 - ((0:Nat):Int);omega
   ·exact Nat.zero_le _
   ·intro k hk
    dsimp only [x176_0,x176_0d,Z1,Za,Zc,Zf]
    have hr:=revTo_length out k
    simp only [↓hcsWy,go_sem,YA,YS,YM,YL,YE,YD,YB,YN,YR,reduceIte,reduceCtorEq,↓reduceIte]
    try simp only [td,reduceCtorEq]
    have hn:((out.length:Int) - 1 - k).toNat=out.length - 1 - k:=by omega
    rw [hn]
    refine ⟨fun h2=>⟨?_,k+1,by omega,by omega,⟨i64_in _ (by omega),?_⟩,rfl⟩,fun h2=>revTo_end out hk (by omega)⟩
    ·rw [List.length_set];omega
    ·rw [i64_in ((out.length:Int) - 1 - k - 1) (by omega)];show (out.length:Int) - 1 - k - 1=(out.length:Int) - 1 - ((k+1:Nat):Int);omega
end T
end
section
open Go.RowKit Go.IntWalk
namespace T
def entBnd:Ent:=⟨111,.cons (.st (.cons (.int .i64) (.cons (.int .i64) (.cons (.sl (.int .i64)) (.sl (.int .i64)))))) (.cons (.int .i64) (.cons (.int .i64) .nil)),(.st (.cons (.int .i64) (.int .i64))),false,none,fun x=>(toArc x.1).rightB=true∧(0≤(x.2.1:Int)∧(x.2.1:Int)≤100000000)∧0≤(x.2.2.1:Int)∧(x.2.2.1:Int)≤100000000,fun x=>bndF x.1 x.2.1 x.2.2.1⟩
def csBnd:List Ent:=[] theorem hcsBnd (f:FuncId):findEnt csBnd f=findEnt [] f:=rfl
theorem conBnd:Con Tryz.prog entBnd:=by
 refine con_is (C:=csBnd) x111 (by kernel_rfl) (by simp [csBnd]) fun x hx hf=>?_
 obtain ⟨⟨(g:Int),(u:Int),(L:List Int),(H:List Int)⟩,(f:Int),(t:Int),_⟩:=x
 obtain ⟨hr,⟨h1,h2⟩,h3,h4⟩:=hx
 replace hr:(toArc (g,u,L,H)).right:=of_decide_eq_true hr
 replace h1:0≤f:=h1
 replace h2:f≤100000000:=h2
 replace h3:0≤t:=h3
 replace h4:t≤100000000:=h4
 obtain ⟨p,hp⟩:∃ p:Nat,f / 60=p:=⟨(f / 60).toNat,by omega⟩
 obtain ⟨q,hq⟩:∃ q:Nat,t / 60=q:=⟨(t / 60).toNat,by omega⟩
 have e1:IntKind.i64.wrap (f.tdiv 60)=(p:Int):=by
  rw [Int.tdiv_eq_ediv_of_nonneg h1,hp]
  exact i64_in _ (by omega)
 have e2:IntKind.i64.wrap (t.tdiv 60)=(q:Int):=by
  rw [Int.tdiv_eq_ediv_of_nonneg h3,hq]
  exact i64_in _ (by omega)
 have e3:IntKind.i64.wrap ((p:Int)+24)=((p+24:Nat):Int):=i64_in _ (by omega)
 have e4:IntKind.i64.wrap (((p+24:Nat):Int) - 1)=((p+23:Nat):Int):=(i64_in _ (by omega)).trans (by omega)
 have e5:IntKind.i64.wrap ((p:Int)+1)=((p+1:Nat):Int):=i64_in _ (by omega)
 have e6:(if p+23 < q then ((p+23:Nat):Int) else (q:Int))=((min (p+23) q:Nat):Int):=by split <;> omega
 have tm:∀ k:Nat,(k:Int).tmod 24=((k % 24:Nat):Int):=fun k=>by
  rw [Int.tmod_eq_emod_of_nonneg (Int.natCast_nonneg k)]
  rfl
 have hn:hoursN f t=min (q - p) 23:=by unfold hoursN;rw [hp,hq];rfl
 have hL:L.length=24:=hr.2.2.1
 have hH:H.length=24:=hr.2.2.2.1
 have hm:∀ k:Nat,k % 24 < 24:=fun k=>Nat.mod_lt _ (by omega)
 dsimp only [entBnd,x111,Z1,Z11,Z2,Za,Zb,Zc,Zf,Zg];simp only [↓hcsBnd,e1,e2,e3,e4,e5,e6,tm,hL,hH,hm,Int.toNat_natCast,go_sem,YA,YS,YM,YL,YE,YD,YB,YN,YR,reduceIte,reduceCtorEq,↓reduceIte]
 try simp only [e1,e2,e3,e4,e5,e6,tm,hL,hH,hm,Int.toNat_natCast,td,reduceCtorEq]
 generalize hM:min (p+23) q=m
 have n60:¬ (60:Int)=0:=by decide
 have n24:¬ (24:Int)=0:=by decide
 refine ⟨n60,?_⟩
 refine ⟨n24,?_⟩
 have hM2:hoursN f t=m - p:=by omega
 refine XW_for 1000 x111_0d [0,1] Nat (fun j=>[(10,.val (.int .i64) ((p+1+j:Nat):Int))]) (fun j=>[(26,.box 95 [.val (.int .i64) (lowB L p j),.val (.int .i64) (highB H p j)])]) (fun j=>j≤m - p) (fun j=>m - p - j) 0 ?_ ?_ ?_
 ·dsimp only [x111_0d]
  simp only [go_sem,YA,YS,YM,YL,YE,YD,YB,YN,YR,reduceIte,reduceCtorEq,↓reduceIte]
  exact ⟨rfl,rfl⟩
 ·exact Nat.zero_le _
 intro j hj
 by_cases hj':j < m - p
 ·have hc1:((p+1+j:Nat):Int)≤(m:Int):=by omega
  have hc2:p+1+j≤m:=by omega
  have w2:IntKind.i64.wrap (((p+1+j:Nat):Int)+1)=((p+1+(j+1):Nat):Int):=(i64_in _ (by omega)).trans (by omega)
  dsimp only [x111_0,x111_0d,Z1,Z11,Za,Zb,Zc,Zf]
  simp only [↓hcsBnd,hc1,hc2,w2,tm,hL,hH,hm,Int.toNat_natCast,go_sem,YA,YS,YM,YL,YE,YD,YB,YN,YR,reduceIte,reduceCtorEq,↓reduceIte]
  try simp only [hc1,hc2,w2,tm,hL,hH,hm,Int.toNat_natCast,td,reduceCtorEq]
  refine ⟨n24,j+1,by omega,hj',rfl,?_,?_⟩
  ·show _=minI (lowB L p j) (L.getD ((p+(j+1)) % 24) 0)
   unfold minI
   rw [show p+1+j=p+(j+1) by omega]
  show _=maxI (highB H p j) (H.getD ((p+(j+1)) % 24) 0)
  unfold maxI
  rw [show p+1+j=p+(j+1) by omega]
 ·have hc1:¬ ((p+1+j:Nat):Int)≤(m:Int):=by omega
  have hc2:¬ p+1+j≤m:=by omega
  dsimp only [x111_0,x111_0d,Z1,Z11,Za,Zb,Zc,Zf]
  simp only [↓hcsBnd,hc1,hc2,Int.toNat_natCast,go_sem,YA,YS,YM,YL,YE,YD,YB,YN,YR,reduceIte,reduceCtorEq,↓reduceIte]
  try simp only [hc1,hc2,Int.toNat_natCast,td,reduceCtorEq]
  unfold bndF
  rw [hM2,hp,Int.toNat_natCast,show j=m - p by omega]
def entLg20:Ent:=⟨54,.cons (.st (.cons (.int .i64) (.cons (.sl (.st (.cons (.int .i64) (.cons (.int .i64) (.cons (.sl (.int .i64)) (.sl (.int .i64))))))) (.cons (.sl (.st (.cons (.int .i64) (.cons (.int .i64) (.cons (.int .i64) (.cons (.int .i64) (.cons (.int .i64) (.cons (.int .i64) (.cons (.int .i64) (.cons (.int .i64) (.int .i64))))))))))) (.cons (.sl (.st (.cons (.int .i64) (.cons (.int .i64) (.cons (.int .i64) (.cons (.int .i64) (.cons (.int .i64) (.cons (.int .i64) (.cons (.int .i64) (.cons (.int .i64) (.cons (.int .i64) (.int .i64)))))))))))) (.cons (.sl (.st (.cons (.int .i64) (.cons (.int .i64) .bool)))) (.st (.cons (.int .i64) (.cons (.int .i64) (.int .i64)))))))))) (.cons (.int .i64) (.cons (.int .i64) (.cons (.st (.cons (.int .i64) (.int .i64))) .nil))),.cons (.st (.cons (.int .i64) (.int .i64))) (.cons .bool .nil),true,none,fun x=>rightP x.1=true∧((0≤(x.2.2.2.1:DWin).1∧(x.2.2.2.1:DWin).1≤1048576)∧0≤(x.2.2.2.1:DWin).2∧(x.2.2.2.1:DWin).2≤1048576)∧(x.2.2.2.1:DWin).1≤(x.2.2.2.1:DWin).2,fun x=>((legF x.1 x.2.1 x.2.2.1 x.2.2.2.1).1,(legF x.1 x.2.1 x.2.2.1 x.2.2.2.1).2,())⟩
def csLg2:List Ent:=[entEarly,entWay,entBnd] theorem hcsLg2 (f:FuncId):findEnt csLg2 f=findEnt [entEarly,entWay,entBnd] f:=rfl
theorem conLg20:Con Tryz.prog entLg20:=by
 refine con_is (C:=csLg2) x54 (by kernel_rfl) (by simp [csLg2,conEarly,conWay,conBnd]) fun x hx hf=>?_
 obtain ⟨⟨(N:Int),(A:List DArc),(C:List DCar),(Q:List DReq),(P:List DPair),(S:DShift)⟩,(f:Int),(t:Int),⟨(e:Int),(l:Int)⟩,_⟩:=x
 obtain ⟨hw,⟨⟨h1,h2⟩,h3,h4⟩,h5⟩:=hx
 replace hw:rightP (N,A,C,Q,P,S)=true:=hw
 replace h1:0≤e:=h1
 replace h2:e≤1048576:=h2
 replace h3:0≤l:=h3
 replace h4:l≤1048576:=h4
 replace h5:e≤l:=h5
 have hn:=rightR_n (rightP_iff.1 hw).1
 dsimp only at hn
 by_cases hft:f=t
 ·subst hft
  dsimp only [entLg20,x54,Z1,Z17,Z2,Za,Zb,Zc,Zd,Zg];simp only [↓hcsLg2,entEarly,entWay,entBnd,go_sem,YA,YS,YM,YL,YE,YD,YB,YN,YR,reduceIte,reduceCtorEq,↓reduceIte]
  try simp only [td,reduceCtorEq]
  unfold legF
  rw [if_pos rfl]
 dsimp only [entLg20,x54,Z1,Z17,Z2,Za,Zb,Zc,Zd,Zg];simp only [↓hcsLg2,entEarly,entWay,entBnd,hft,go_sem,YA,YS,YM,YL,YE,YD,YB,YN,YR,reduceIte,reduceCtorEq,↓reduceIte]
 try simp only [hft,td,reduceCtorEq]
 refine ⟨by have:=earlyLen (rightP_iff.1 hw).1 f e true;dsimp only at this;omega,?_⟩
 have hlf:legF (N,A,C,Q,P,S) f t (e,l)=((legWay (N,A,C,Q,P,S) f t (e,l)).foldl (legStep A e l) (0,0),decide (legWay (N,A,C,Q,P,S) f t (e,l)≠[])):=by
  unfold legF
  rw [if_neg hft]
 have hbd:=leg_bd hw f t (e,l)
 have hin:∀ i ∈ legWay (N,A,C,Q,P,S) f t (e,l),0≤i∧i < A.length:=fun i hi=>wayF_in i hi
 dsimp only at hbd
 have hWd:wayF (earlyF N A f e true).1 A t=legWay (N,A,C,Q,P,S) f t (e,l):=rfl
 rw [hWd]
 generalize hWW:legWay (N,A,C,Q,P,S) f t (e,l)=W at hlf hbd hin
 have hwl:W.length≤2000:=by rw [← hWW];exact legWay_len hw f t (e,l)
 refine XW_for 1000 x54_0d [0,1,2] Nat (fun j=>[(39,.val (.int .i64) (j:Int))]) (fun j=>[(4,.box 95 [.val (.int .i64) ((W.take j).foldl (legStep A e l) (0,0)).1,.val (.int .i64) ((W.take j).foldl (legStep A e l) (0,0)).2])]) (fun j=>j≤W.length) (fun j=>W.length - j) 0 ?_ ?_ ?_
 ·dsimp only [x54_0d]
  simp only [go_sem,YA,YS,YM,YL,YE,YD,YB,YN,YR,reduceIte,reduceCtorEq,↓reduceIte]
  exact ⟨rfl,rfl,rfl⟩
 ·exact Nat.zero_le _
 intro j hj
 by_cases hj':j < W.length
 ·have w2:IntKind.i64.wrap ((j:Int)+1)=((j+1:Nat):Int):=i64_in _ (by omega)
  have hmem:=getD_mem2 (d:=(0:Int)) hj'
  have hk:=hin _ hmem
  have hts:W.take (j+1)=W.take j ++ [W.getD j 0]:=by
   rw [List.take_succ_eq_append_getElem hj']
   simp [List.getD,hj']
  have hb:=hbd j
  have hb2:=hbd (j+1)
  rw [hts,List.foldl_append] at hb2
  generalize hS:W.getD j 0=k at hmem hk hts hb2
  generalize hO:(W.take j).foldl (legStep A e l) (0,0)=out at hb hb2
  obtain ⟨k,rfl⟩:∃ z:Nat,k=z:=⟨k.toNat,by omega⟩
  have hka:k < A.length:=by omega
  have hr:=(hn.2.2.2 _ (getD_mem2 (d:=((0,0,[],[]):DArc)) hka)).1
  have hst:legStep A e l out (k:Int)=(out.1+(bndF (A.getD k (0,0,[],[])) (e+out.1) (l+out.2)).1,out.2+(bndF (A.getD k (0,0,[],[])) (e+out.1) (l+out.2)).2):=rfl
  simp only [List.foldl_cons,List.foldl_nil,hst] at hb2
  obtain ⟨o1,o2⟩:=out
  dsimp only at hb hb2 hst
  have w3:IntKind.i64.wrap (e+o1)=e+o1:=i64_in _ (by omega)
  have w4:IntKind.i64.wrap (l+o2)=l+o2:=i64_in _ (by omega)
  generalize hB:bndF (A.getD k (0,0,[],[])) (e+o1) (l+o2)=bb at hb2 hst
  have hbl:=low_bd (show (toArc (A.getD k (0,0,[],[]))).right from of_decide_eq_true hr) ((e+o1) / 60).toNat (hoursN (e+o1) (l+o2))
  have w5:IntKind.i64.wrap (o1+bb.1)=o1+bb.1:=i64_in _ (by
   rw [← hB]
   unfold bndF
   dsimp only at hbl ⊢
   omega)
  have w6:IntKind.i64.wrap (o2+bb.2)=o2+bb.2:=i64_in _ (by
   rw [← hB]
   unfold bndF
   dsimp only at hbl ⊢
   omega)
  dsimp only [x54_0,x54_0d,Z1,Z13,Z17,Z2,Za,Zb,Zc,Zd,Zf]
  simp only [↓hcsLg2,entEarly,entWay,entBnd,hj',hS,hO,hka,hr,w2,w3,w4,hB,w5,w6,Int.toNat_natCast,go_sem,YA,YS,YM,YL,YE,YD,YB,YN,YR,reduceIte,reduceCtorEq,↓reduceIte]
  try simp only [hj',hS,hO,hka,hr,w2,w3,w4,hB,w5,w6,Int.toNat_natCast,td,reduceCtorEq]
  refine ⟨⟨⟨(by omega:(0:Int)≤e+o1),(by omega:e+o1≤(100000000:Int))⟩,(by omega:(0:Int)≤l+o2),(by omega:l+o2≤(100000000:Int))⟩,j+1,by omega,hj',rfl,?_⟩
  rw [hts,List.foldl_append,hO]
  exact ⟨(congrArg Prod.fst hst).symm,(congrArg Prod.snd hst).symm⟩
 ·obtain rfl:j=W.length:=by omega
  dsimp only [x54_0,x54_0d,Z1,Z13,Z17,Z2,Za,Zb,Zc,Zd,Zf]
  simp only [↓hcsLg2,entEarly,entWay,entBnd,hj',go_sem,YA,YS,YM,YL,YE,YD,YB,YN,YR,reduceIte,reduceCtorEq,↓reduceIte]
  try simp only [hj',td,reduceCtorEq]
  rw [hlf]
  try rw [List.take_length]
  have:decide (0 < (W.length:Int))=decide (W≠[]):=by
   rw [Bool.eq_iff_iff]
   simp [List.length_pos_iff]
  rw [this]
end T
end
section
open Go.RowKit Go.IntWalk
namespace T
theorem at_next {ss:List DStop} {x:DStop} {j:Nat} (hj:j < ss.length) (hn:x ∉ ss.take j) (h:ss.getD j dStop≠x):x ∉ ss.take (j+1):=by
 rw [take_next hj,List.mem_append,List.mem_singleton]
 exact fun q=>q.elim hn fun e=>h e.symm
theorem at_end {ss:List DStop} {x:DStop} {j:Nat} (hj:ss.length≤j) (hn:x ∉ ss.take j):x ∉ ss:=by rwa [List.take_of_length_le hj] at hn
def entPlc:Ent:=⟨188,.cons (.int .i64) .nil,.bool,false,none,fun _=>True,fun x=>place1 x.1⟩
def csPlc:List Ent:=[] theorem hcsPlc (f:FuncId):findEnt csPlc f=findEnt [] f:=rfl
theorem conPlc:Con Tryz.prog entPlc:=by
 refine con_is (C:=csPlc) x188 (by kernel_rfl) (by simp [csPlc]) fun x hx hf=>?_
 obtain ⟨(n:Int),_⟩:=x
 dsimp only [entPlc,x188,Za];simp only [↓hcsPlc,go_sem,YA,YS,YM,YL,YE,YD,YB,YN,YR,reduceIte,reduceCtorEq,↓reduceIte];try simp only [td,reduceCtorEq]
 simp [place1]
def entPlace:Ent:=⟨126,.cons (.int .i64) .nil,.bool,false,none,fun _=>True,fun x=>place1 x.1⟩
def csPl2:List Ent:=[] theorem hcsPl2 (f:FuncId):findEnt csPl2 f=findEnt [] f:=rfl
theorem conPlace:Con Tryz.prog entPlace:=by
 refine con_is (C:=csPl2) x126 (by kernel_rfl) (by simp [csPl2]) fun x hx hf=>?_
 obtain ⟨(n:Int),_⟩:=x
 dsimp only [entPlace,x126,Za];simp only [↓hcsPl2,go_sem,YA,YS,YM,YL,YE,YD,YB,YN,YR,reduceIte,reduceCtorEq,↓reduceIte];try simp only [td,reduceCtorEq]
 simp [place1]
def entPlaces:Ent:=⟨145,.cons (.st (.cons (.int .i64) (.cons (.int .i64) (.int .i64)))) .nil,.bool,false,none,fun _=>True,fun x=>placesB x.1⟩
def csPls:List Ent:=[entPlc] theorem hcsPls (f:FuncId):findEnt csPls f=findEnt [entPlc] f:=rfl
theorem conPlaces:Con Tryz.prog entPlaces:=by
 refine con_is (C:=csPls) x145 (by kernel_rfl) (by simp [csPls,conPlc]) fun x hx hf=>?_
 obtain ⟨⟨(a:Int),(b:Int),(c:Int)⟩,_⟩:=x
 dsimp only [entPlaces,x145,Z1,Za,Zb,Zc,Ze];simp only [↓hcsPls,entPlc,go_sem,YA,YS,YM,YL,YE,YD,YB,YN,YR,reduceIte,reduceCtorEq,↓reduceIte];try simp only [td,reduceCtorEq]
 simp [placesB,Bool.and_assoc]
def entOf:Ent:=⟨159,.cons (.st (.cons (.int .i64) (.cons (.int .i64) (.cons (.int .i64) (.cons (.int .i64) (.cons (.int .i64) (.cons (.int .i64) (.cons (.int .i64) (.cons (.int .i64) (.cons (.int .i64) (.int .i64))))))))))) .nil,(.st (.cons (.int .i64) (.cons (.int .i64) (.int .i64)))),false,none,fun _=>True,fun x=>reqLoad x.1⟩
def csOf:List Ent:=[] theorem hcsOf (f:FuncId):findEnt csOf f=findEnt [] f:=rfl
theorem conOf:Con Tryz.prog entOf:=by
 refine con_is (C:=csOf) x159 (by kernel_rfl) (by simp [csOf]) fun x hx hf=>?_
 obtain ⟨⟨(a:Int),(b:Int),(c:Int),(d:Int),(e:Int),(f:Int),(g:Int),(h:Int),(i:Int),(j:Int)⟩,_⟩:=x
 dsimp only [entOf,x159,Z1,Z5,Zb,Zd];simp only [↓hcsOf,go_sem,YA,YS,YM,YL,YE,YD,YB,YN,YR,reduceIte,reduceCtorEq,↓reduceIte];try simp only [td,reduceCtorEq]
 rfl
def entAt17:Ent:=⟨178,.cons (.sl (.st (.cons (.int .i64) .bool))) (.cons (.int .i64) (.cons .bool .nil)),(.int .i64),false,none,fun _=>True,fun x=>atF (x.2.1,x.2.2.1) x.1⟩
def csAt:List Ent:=[] theorem hcsAt (f:FuncId):findEnt csAt f=findEnt [] f:=rfl
theorem conAt17:Con Tryz.prog entAt17:=by
 refine con_is (C:=csAt) x178 (by kernel_rfl) (by simp [csAt]) fun x hx hf=>?_
 obtain ⟨(ss:List DStop),(k:Int),(p:Bool),_⟩:=x
 have hl:ss.length≤9223372036854775807:=hf.1.1
 dsimp only [entAt17,x178];simp only [↓hcsAt,go_sem,YA,YS,YM,YL,YE,YD,YB,YN,YR,reduceIte,reduceCtorEq,↓reduceIte];try simp only [td,reduceCtorEq]
 refine XW_for 1000 x178_0d [] Nat (fun j=>[(7,.val (.int .i64) (j:Int))]) (fun _=>[]) (fun j=>j≤ss.length∧(k,p) ∉ ss.take j) (fun j=>ss.length - j) 0 ?_ ?_ ?_
 ·dsimp only [x178_0d]
  simp only [go_sem,YA,YS,YM,YL,YE,YD,YB,YN,YR,reduceIte,reduceCtorEq,↓reduceIte]
  try rfl
 ·exact ⟨Nat.zero_le _,by simp⟩
 ·rintro j ⟨hj,hn⟩
  dsimp only [x178_0,x178_0d,Z1,Z8,Za,Zb,Zc,Ze]
  simp only [↓hcsAt,go_sem,YA,YS,YM,YL,YE,YD,YB,YN,YR,reduceIte,reduceCtorEq,↓reduceIte]
  try simp only [td,reduceCtorEq]
  have w2:j < ss.length→IntKind.i64.wrap ((j:Int)+1)=((j+1:Nat):Int):=fun h=>i64_in _ (by omega)
  refine ⟨fun hj'=>⟨⟨hj',fun e=>⟨e,hj'⟩⟩,fun e=>(atF_at (x:=(k,p)) hj' (Prod.ext e.1 e.2) hn).symm,fun e=>⟨j+1,by omega,⟨hj',at_next hj' hn fun q=>e (congrArg Prod.fst q) (congrArg Prod.snd q)⟩,w2 hj'⟩⟩,fun hj'=>(atF_none (at_end (by omega) hn)).symm⟩
def entIdxS:Ent:=⟨191,.cons (.sl (.st (.cons (.int .i64) .bool))) (.cons (.st (.cons (.int .i64) .bool)) .nil),(.int .i64),false,none,fun _=>True,fun x=>atF x.2.1 x.1⟩
def csIxs:List Ent:=[] theorem hcsIxs (f:FuncId):findEnt csIxs f=findEnt [] f:=rfl
theorem conIdxS:Con Tryz.prog entIdxS:=by
 refine con_is (C:=csIxs) x191 (by kernel_rfl) (by simp [csIxs]) fun x hx hf=>?_
 obtain ⟨(ss:List DStop),⟨(k:Int),(p:Bool)⟩,_⟩:=x
 have hl:ss.length≤9223372036854775807:=hf.1.1
 dsimp only [entIdxS,x191,Zb];simp only [↓hcsIxs,go_sem,YA,YS,YM,YL,YE,YD,YB,YN,YR,reduceIte,reduceCtorEq,↓reduceIte];try simp only [td,reduceCtorEq]
 refine XW_for 1000 x191_0d [0] Nat (fun j=>[(8,.val (.int .i64) (j:Int))]) (fun _=>[]) (fun j=>j≤ss.length∧(k,p) ∉ ss.take j) (fun j=>ss.length - j) 0 ?_ ?_ ?_
 ·dsimp only [x191_0d]
  simp only [go_sem,YA,YS,YM,YL,YE,YD,YB,YN,YR,reduceIte,reduceCtorEq,↓reduceIte]
  try rfl
 ·exact ⟨Nat.zero_le _,by simp⟩
 ·rintro j ⟨hj,hn⟩
  dsimp only [x191_0,x191_0d,Z8,Za,Zf]
  simp only [↓hcsIxs,go_sem,YA,YS,YM,YL,YE,YD,YB,YN,YR,reduceIte,reduceCtorEq,↓reduceIte]
  try simp only [td,reduceCtorEq]
  have w2:j < ss.length→IntKind.i64.wrap ((j:Int)+1)=((j+1:Nat):Int):=fun h=>i64_in _ (by omega)
  refine ⟨fun hj'=>⟨hj',fun e=>(atF_at (x:=(k,p)) hj' (Prod.ext e.1.symm e.2.symm) hn).symm,fun e=>⟨j+1,by omega,⟨hj',at_next hj' hn fun q=>e (congrArg Prod.fst q).symm (congrArg Prod.snd q).symm⟩,w2 hj'⟩⟩,fun hj'=>(atF_none (at_end (by omega) hn)).symm⟩
end T
end
section
open Go.RowKit Go.IntWalk
namespace T
theorem mget_keys (ks:List Int) (k:Int):mget false (ks.map fun k=>(k,true)) k=decide (k ∈ ks):=by
 induction ks with
 | nil=>rfl
 | cons p r ih =>
  rw [List.map_cons,mget]
  dsimp only
  by_cases c:p=k
  ·rw [if_pos c];exact (decide_eq_true (by simp [c])).symm
  ·rw [if_neg c,ih];exact decide_eq_decide.2 (by simp [Ne.symm c])
theorem mset_keys (ks:List Int) (k:Int):mset (ks.map fun k=>(k,true)) k true=(kset ks k).map fun k=>(k,true):=by
 induction ks with
 | nil=>rfl
 | cons p r ih =>
  rw [List.map_cons,mset,kset]
  dsimp only
  by_cases c:p=k
  ·rw [if_pos c,if_pos c];rfl
  ·rw [if_neg c,if_neg c,ih];rfl
theorem mdel_keys (ks:List Int) (k:Int):mdel (ks.map fun k=>(k,true)) k=(kdel ks k).map fun k=>(k,true):=by
 induction ks with
 | nil=>rfl
 | cons p r ih =>
  rw [List.map_cons,mdel,kdel]
  dsimp only
  by_cases c:p=k
  ·rw [if_pos c,if_pos c]
  ·rw [if_neg c,if_neg c,ih];rfl
theorem drop_next {ss:List DStop} {j:Nat} (h:j < ss.length):ss.drop j=ss.getD j dStop :: ss.drop (j+1):=by rw [getD_get h];exact List.drop_eq_getElem_cons h
def entCtS:Ent:=⟨160,.cons (.sl (.st (.cons (.int .i64) .bool))) (.cons (.st (.cons (.int .i64) .bool)) .nil),.bool,false,none,fun _=>True,fun x=>decide (x.2.1 ∈ (x.1:List DStop))⟩
def csCts:List Ent:=[entIdxS] theorem hcsCts (f:FuncId):findEnt csCts f=findEnt [entIdxS] f:=rfl
theorem conCtS:Con Tryz.prog entCtS:=by
 refine con_is (C:=csCts) x160 (by kernel_rfl) (by simp [csCts,conIdxS]) fun x hx hf=>?_
 obtain ⟨(ss:List DStop),⟨(k:Int),(p:Bool)⟩,_⟩:=x
 dsimp only [entCtS,x160,Z8,Zb];simp only [↓hcsCts,entIdxS,go_sem,YA,YS,YM,YL,YE,YD,YB,YN,YR,reduceIte,reduceCtorEq,↓reduceIte];try simp only [td,reduceCtorEq]
 exact decide_eq_decide.2 at_mem
def entIn:Ent:=⟨180,.cons (.sl (.st (.cons (.int .i64) .bool))) (.cons (.int .i64) (.cons (.int .i64) .nil)),.bool,false,none,fun _=>True,fun x=>inB x.1 x.2.1 x.2.2.1⟩
def csIn:List Ent:=[entAt17] theorem hcsIn (f:FuncId):findEnt csIn f=findEnt [entAt17] f:=rfl
theorem conIn:Con Tryz.prog entIn:=by
 refine con_is (C:=csIn) x180 (by kernel_rfl) (by simp [csIn,conAt17]) fun x hx hf=>?_
 obtain ⟨(ss:List DStop),(k:Int),(j:Int),_⟩:=x
 dsimp only [entIn,x180,Za,Zb];simp only [↓hcsIn,entAt17,go_sem,YA,YS,YM,YL,YE,YD,YB,YN,YR,reduceIte,reduceCtorEq,↓reduceIte];try simp only [td,reduceCtorEq]
 rfl
def entRRightS:Ent:=⟨124,.cons (.sl (.st (.cons (.int .i64) .bool))) (.cons (.sl (.st (.cons (.int .i64) (.cons (.int .i64) (.cons (.int .i64) (.cons (.int .i64) (.cons (.int .i64) (.cons (.int .i64) (.cons (.int .i64) (.cons (.int .i64) (.cons (.int .i64) (.int .i64)))))))))))) .nil),.bool,false,none,fun _=>True,fun x=>rightS x.1 x.2.1⟩
def csRrs:List Ent:=[entAt17,entPlace] theorem hcsRrs (f:FuncId):findEnt csRrs f=findEnt [entAt17,entPlace] f:=rfl
theorem conRRightS:Con Tryz.prog entRRightS:=by
 refine con_is (C:=csRrs) x124 (by kernel_rfl) (by simp [csRrs,conAt17,conPlace]) fun x hx hf=>?_
 obtain ⟨(ss:List DStop),(rs:List DReq),_⟩:=x
 have hl:ss.length≤9223372036854775807:=hf.1.1
 dsimp only [entRRightS,x124,Zb,Zg];simp only [↓hcsRrs,entAt17,entPlace,go_sem,YA,YS,YM,YL,YE,YD,YB,YN,YR,reduceIte,reduceCtorEq,↓reduceIte];try simp only [td,reduceCtorEq]
 refine ⟨fun h=>?_,fun h=>?_⟩
 ·refine (decide_eq_false fun q=>?_).symm
  have:=q.1
  omega
 refine XW_for 1000 x124_0d [] Nat (fun j=>[(5,.val (.int .i64) (j:Int))]) (fun _=>[]) (fun j=>j≤ss.length∧∀ i,i < j→OkRef ss rs i) (fun j=>ss.length - j) 0 ?_ ?_ ?_
 ·dsimp only [x124_0d]
  simp only [go_sem,YA,YS,YM,YL,YE,YD,YB,YN,YR,reduceIte,reduceCtorEq,↓reduceIte]
  try rfl
 ·exact ⟨Nat.zero_le _,fun i hi=>by omega⟩
 ·rintro j ⟨hj,hok⟩
  dsimp only [x124_0,x124_0d,Z1,Z6,Z8,Za,Zb,Zc,Zd,Ze,Zg]
  simp only [↓hcsRrs,entAt17,entPlace,go_sem,YA,YS,YM,YL,YE,YD,YB,YN,YR,reduceIte,reduceCtorEq,↓reduceIte]
  try simp only [td,reduceCtorEq]
  have w2:j < ss.length→IntKind.i64.wrap ((j:Int)+1)=((j+1:Nat):Int):=fun h=>i64_in _ (by omega)
  have no:j < ss.length→¬ OkRef ss rs j→false=rightS ss rs:=fun hj' q=>(decide_eq_false fun z=>q ((right_ref.1 z).2 j hj')).symm
  have yes:j < ss.length→OkRef ss rs j→∀ i,i < j+1→OkRef ss rs i:=fun hj' q i hi=>by
   by_cases c:i=j
   ·rw [c];exact q
   ·exact hok i (by omega)
  have hR:OkRef ss rs j ↔ (0≤(ss.getD j dStop).1∧(ss.getD j dStop).1 < rs.length)∧atF (ss.getD j dStop) ss=j∧placesB (reqLoad (rs.getD (ss.getD j dStop).1.toNat dReq))=true∧((ss.getD j dStop).2=true→(j:Int) < atF ((ss.getD j dStop).1,false) ss):=Iff.rfl
  have hp:placesB (reqLoad (rs.getD (ss.getD j dStop).1.toNat dReq))=(place1 (reqLoad (rs.getD (ss.getD j dStop).1.toNat dReq)).1 && (place1 (reqLoad (rs.getD (ss.getD j dStop).1.toNat dReq)).2.1 && place1 (reqLoad (rs.getD (ss.getD j dStop).1.toNat dReq)).2.2)):=rfl
  rw [hp] at hR
  unfold reqLoad at hR
  dsimp only at hR
  generalize place1 (rs.getD (Int.toNat (ss.getD j (0,false)).fst) (0,0,0,0,0,0,0,0,0,0)).snd.snd.snd.snd.snd.snd.snd.fst=p1 at hR ⊢
  generalize place1 (rs.getD (Int.toNat (ss.getD j (0,false)).fst) (0,0,0,0,0,0,0,0,0,0)).snd.snd.snd.snd.snd.snd.snd.snd.fst=p2 at hR ⊢
  generalize place1 (rs.getD (Int.toNat (ss.getD j (0,false)).fst) (0,0,0,0,0,0,0,0,0,0)).snd.snd.snd.snd.snd.snd.snd.snd.snd=p3 at hR ⊢
  have he:((ss.getD j (0,false)).1,(ss.getD j (0,false)).2)=ss.getD j dStop:=rfl
  rw [he]
  have hpp:(p1 && (p2 && p3))=true ↔ ((p1=true∧p2=true)∧p3=true):=by simp [and_assoc]
  have hpn:((p1=false∨p2=false)∨p3=false)→¬ ((p1=true∧p2=true)∧p3=true):=by rintro ((q | q) | q) <;> simp [q]
  rw [hpp] at hR
  refine ⟨fun hj'=>⟨hj',fun q=>⟨q,hj'⟩,fun q=>no hj' fun z=>?_,fun q=>⟨q.1,⟨fun z=>⟨z,hj'⟩,fun z=>⟨z,fun y=>⟨z,y⟩⟩⟩,fun z=>no hj' fun y=>?_,fun z=>⟨j+1,by omega,⟨hj',yes hj' (hR.2 ⟨q.1,q.2,z.1,z.2⟩)⟩,w2 hj'⟩⟩⟩,fun hj'=>?_⟩
  ·have:=hR.1 z
   rcases q with q | q
   ·have:=this.1;dsimp only [dStop] at this;omega
   ·exact q this.2.1
  ·have y:=hR.1 y
   rcases z with z | z
   ·exact hpn z y.2.2.1
   ·have:=y.2.2.2 z.1
    have:=z.2
    dsimp only [dStop] at *
    omega
  ·exact (decide_eq_true (right_ref.2 ⟨by omega,fun i hi=>hok i (by omega)⟩)).symm
def entRightS:Ent:=⟨106,.cons (.sl (.st (.cons (.int .i64) .bool))) (.cons (.sl (.st (.cons (.int .i64) (.cons (.int .i64) (.cons (.int .i64) (.cons (.int .i64) (.cons (.int .i64) (.cons (.int .i64) (.cons (.int .i64) (.cons (.int .i64) (.cons (.int .i64) (.int .i64)))))))))))) .nil),.bool,false,none,fun _=>True,fun x=>rightS x.1 x.2.1⟩
def csRs:List Ent:=[entOf,entPlaces,entCtS] theorem hcsRs (f:FuncId):findEnt csRs f=findEnt [entOf,entPlaces,entCtS] f:=rfl
theorem conRightS:Con Tryz.prog entRightS:=by
 refine con_is (C:=csRs) x106 (by kernel_rfl) (by simp [csRs,conOf,conPlaces,conCtS]) fun x hx hf=>?_
 obtain ⟨(ss:List DStop),(rs:List DReq),_⟩:=x
 have hl:ss.length≤9223372036854775807:=hf.1.1
 dsimp only [entRightS,x106,Za,Zb,Zg];simp only [↓hcsRs,entOf,entPlaces,entCtS,go_sem,YA,YS,YM,YL,YE,YD,YB,YN,YR,reduceIte,reduceCtorEq,↓reduceIte];try simp only [td,reduceCtorEq]
 refine ⟨fun h=>?_,fun h=>?_⟩
 ·refine (decide_eq_false fun q=>?_).symm
  have:=q.1
  omega
 refine XW_for 1000 x106_0d [] (Nat × List Int) (fun s=>[(6,.val (.int .i64) ((s.1:Int) - 1))]) (fun s=>[(9,.mp .i64 .bool (s.2.map fun k=>(k,true)))])
   (fun s=>s.1≤ss.length∧(∀ k,k ∈ s.2 ↔ (k,false) ∈ ss.drop s.1)∧∀ i,s.1≤i→i < ss.length→OkAt ss rs i) (fun s=>s.1) (ss.length,[]) ?_ ?_ ?_
 ·dsimp only [x106_0d]
  simp only [go_sem,YA,YS,YM,YL,YE,YD,YB,YN,YR,reduceIte,reduceCtorEq,↓reduceIte]
  exact i64_in _ (by omega)
 ·exact ⟨Nat.le_refl _,fun k=>by simp,fun i (hi:ss.length≤i) hl=>by omega⟩
 ·rintro ⟨j,ks⟩ ⟨hj,hks,hok⟩
  dsimp only [x106_0,x106_0d,Z1,Z6,Z8,Za,Zb,Zc,Zd,Zf,Zg,Zh]
  simp only [↓hcsRs,entOf,entPlaces,entCtS,go_sem,YA,YS,YM,YL,YE,YD,YB,YN,YR,reduceIte,reduceCtorEq,↓reduceIte]
  try simp only [td,reduceCtorEq]
  dsimp only at hj hks hok
  by_cases hj0:j=0
  ·subst hj0
   refine ⟨fun q=>by omega,fun _=>(decide_eq_true ⟨by omega,fun i hi=>hok i (by omega) hi⟩).symm⟩
  obtain ⟨j,rfl⟩:∃ m,j=m+1:=⟨j - 1,by omega⟩
  have hj':j < ss.length:=by omega
  have e1:((j+1:Nat):Int) - 1=(j:Int):=by omega
  have w2:IntKind.i64.wrap ((j:Int) - 1)=(j:Int) - 1:=i64_in _ (by omega)
  have hd:=drop_next hj'
  have no:¬ OkAt ss rs j→false=rightS ss rs:=fun q=>(decide_eq_false fun z=>q (z.2 j hj')).symm
  have yes:OkAt ss rs j→∀ i,j≤i→i < ss.length→OkAt ss rs i:=fun q i hi hl=>by
   by_cases c:i=j
   ·rw [c];exact q
   ·exact hok i (by omega) hl
  have hR:OkAt ss rs j ↔ (0≤(ss.getD j dStop).1∧(ss.getD j dStop).1 < rs.length)∧placesB (reqLoad (rs.getD (ss.getD j dStop).1.toNat dReq))=true∧ss.getD j dStop ∉ ss.take j∧((ss.getD j dStop).2=true→((ss.getD j dStop).1,false) ∈ ss.drop (j+1)):=Iff.rfl
  simp only [e1,w2,Int.toNat_natCast,mget_keys,mset_keys]
  dsimp only [dStop] at hR hd
  have he:((ss.getD j (0,false)).1,(ss.getD j (0,false)).2)=ss.getD j (0,false):=rfl
  rw [he]
  generalize ss.getD j (0,false)=s at hR hd he ⊢
  obtain ⟨k,p⟩:=s
  dsimp only at hR hd ⊢
  generalize placesB (reqLoad (rs.getD k.toNat dReq))=pb at hR ⊢
  refine ⟨fun _=>⟨by omega,⟨fun q=>⟨q,by omega⟩,fun q=>⟨q,fun z=>⟨q,z⟩⟩⟩,fun q=>no fun z=>?_,fun q=>⟨fun z=>?_,fun z=>?_⟩⟩,fun q=>by omega⟩
  ·have z:=hR.1 z
   rcases q with ((q | q) | q) | q
   ·omega
   ·rw [q] at z;cases z.2.1
   ·exact z.2.2.1 q
   ·have:=(hks k).2 (z.2.2.2 q.1)
    have q2:=q.2
    simp only [decide_eq_false_iff_not] at q2
    exact q2 this
  ·refine ⟨(j,kset ks k),Nat.lt_succ_self _,⟨by dsimp only;omega,fun x=>?_,yes (hR.2 ⟨q.1.1.1,q.1.1.2,q.1.2,fun y=>by rw [z] at y;cases y⟩)⟩,rfl,rfl⟩
   dsimp only
   rw [mem_kset,hks,hd,List.mem_cons,z,Prod.mk.injEq,or_comm]
   simp
  ·refine ⟨(j,ks),Nat.lt_succ_self _,⟨by dsimp only;omega,fun x=>?_,yes (hR.2 ⟨q.1.1.1,q.1.1.2,q.1.2,fun y=>?_⟩)⟩,rfl,rfl⟩
   ·dsimp only
    rw [hks,hd,List.mem_cons,z,Prod.mk.injEq]
    simp
   ·have:=q.2 z
    rw [decide_eq_true_iff] at this
    exact (hks k).1 this
end T
end
end Go.Proofs.YtjlofnjlhgbmoaaGreat
