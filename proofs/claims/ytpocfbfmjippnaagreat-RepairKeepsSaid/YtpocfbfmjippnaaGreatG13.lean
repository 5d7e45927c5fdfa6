/- Parts of the proof of the law; no condition. -/
import Derived.Test.YtpocfbfmjippnaaGreatG6
set_option linter.all false
section
namespace Go.Proofs.YtpocfbfmjippnaaGreat
open Go.RowKit Go.IntWalk
namespace T
def entIdxFuncWin:Ent:=⟨147,.cons Z9 (.cons (.fn Z8 .bool) .nil),(.int .i64),false,none,fun _=>True,fun x=>idxF x.2.1 x.1⟩
theorem conIdxFuncWin:Con Tryz.prog entIdxFuncWin:=by
 refine con_is (C:=[]) x147 (by kernel_rfl) (by simp) fun x _ hf=>?_;obtain ⟨(xs:List DWin),(p:DWin→Bool),_⟩:=x;have hl:xs.length≤maxLen:=hf.1.1;dsimp only[entIdxFuncWin,x147];simp only[go_sem];refine XW_for 1000 x147_0d [] Nat (fun k=>[(8,.val Z1 (k:Int))]) (fun _=>[]) (fun k=>k≤xs.length∧∀j,j<k→p (xs.getD j (0,0))=false) (fun k=>xs.length-k) 0 ?_ ?_ ?_
 ·dsimp only[x147_0d];simp only[go_sem];rfl
 ·exact ⟨by omega,fun j hj=>by omega⟩
 ·intro k hk;dsimp only[x147_0,x147_0d];simp only[go_sem];dsimp only[maxLen] at hl;by_cases hkl:k<xs.length
  ·simp only[hkl,td,reduceCtorEq];refine ⟨fun h=>(idxF_at hkl hk.2 h).symm,fun h=>⟨k+1,by omega,⟨by omega,fun j hj=>?_⟩,i64_in _ (by omega)⟩⟩;rcases Nat.lt_succ_iff_lt_or_eq.1 hj with h'|rfl
   ·exact hk.2 j h'
   ·exact h
  ·simp only[hkl,td,reduceCtorEq];exact (idxF_none fun j hj=>hk.2 j (by omega)).symm
def entConFuncWin:Ent:=⟨90,.cons Z9 (.cons (.fn Z8 .bool) .nil),.bool,false,none,fun _=>True,fun x=>x.1.any x.2.1⟩
theorem conConFuncWin:Con Tryz.prog entConFuncWin:=by
 refine con_is (C:=[entIdxFuncWin]) x90 (by kernel_rfl) (by simp[conIdxFuncWin]) fun x _ hf=>?_;obtain ⟨(xs:List DWin),(p:DWin→Bool),_⟩:=x;dsimp only[entConFuncWin,entIdxFuncWin,x90];simp only[go_sem];refine eq_of_iff ?_;rw[←idxF_any];simp
def entIdxFuncLeg:Ent:=⟨148,.cons Z9 (.cons (.fn Z8 .bool) .nil),(.int .i64),false,none,fun _=>True,fun x=>idxF x.2.1 x.1⟩
theorem conIdxFuncLeg:Con Tryz.prog entIdxFuncLeg:=by
 refine con_is (C:=[]) x148 (by kernel_rfl) (by simp) fun x _ hf=>?_;obtain ⟨(xs:List DLeg),(p:DLeg→Bool),_⟩:=x;have hl:xs.length≤maxLen:=hf.1.1;dsimp only[entIdxFuncLeg,x148];simp only[go_sem];refine XW_for 1000 x148_0d [] Nat (fun k=>[(8,.val Z1 (k:Int))]) (fun _=>[]) (fun k=>k≤xs.length∧∀j,j<k→p (xs.getD j (0,0))=false) (fun k=>xs.length-k) 0 ?_ ?_ ?_
 ·dsimp only[x148_0d];simp only[go_sem];rfl
 ·exact ⟨by omega,fun j hj=>by omega⟩
 ·intro k hk;dsimp only[x148_0,x148_0d];simp only[go_sem];dsimp only[maxLen] at hl;by_cases hkl:k<xs.length
  ·simp only[hkl,td,reduceCtorEq];refine ⟨fun h=>(idxF_at hkl hk.2 h).symm,fun h=>⟨k+1,by omega,⟨by omega,fun j hj=>?_⟩,i64_in _ (by omega)⟩⟩;rcases Nat.lt_succ_iff_lt_or_eq.1 hj with h'|rfl
   ·exact hk.2 j h'
   ·exact h
  ·simp only[hkl,td,reduceCtorEq];exact (idxF_none fun j hj=>hk.2 j (by omega)).symm
def entConFuncLeg:Ent:=⟨91,.cons Z9 (.cons (.fn Z8 .bool) .nil),.bool,false,none,fun _=>True,fun x=>x.1.any x.2.1⟩
theorem conConFuncLeg:Con Tryz.prog entConFuncLeg:=by
 refine con_is (C:=[entIdxFuncLeg]) x91 (by kernel_rfl) (by simp[conIdxFuncLeg]) fun x _ hf=>?_;obtain ⟨(xs:List DLeg),(p:DLeg→Bool),_⟩:=x;dsimp only[entConFuncLeg,entIdxFuncLeg,x91];simp only[go_sem];refine eq_of_iff ?_;rw[←idxF_any];simp
def entIdxFuncRid:Ent:=⟨149,.cons Z17 (.cons (.fn Z3 .bool) .nil),(.int .i64),false,none,fun _=>True,fun x=>idxF x.2.1 x.1⟩
theorem conIdxFuncRid:Con Tryz.prog entIdxFuncRid:=by
 refine con_is (C:=[]) x149 (by kernel_rfl) (by simp) fun x _ hf=>?_;obtain ⟨(xs:List DRide),(p:DRide→Bool),_⟩:=x;have hl:xs.length≤maxLen:=hf.1.1;dsimp only[entIdxFuncRid,x149];simp only[go_sem];refine XW_for 1000 x149_0d [] Nat (fun k=>[(8,.val Z1 (k:Int))]) (fun _=>[]) (fun k=>k≤xs.length∧∀j,j<k→p (xs.getD j (0,0,0))=false) (fun k=>xs.length-k) 0 ?_ ?_ ?_
 ·dsimp only[x149_0d];simp only[go_sem];rfl
 ·exact ⟨by omega,fun j hj=>by omega⟩
 ·intro k hk;dsimp only[x149_0,x149_0d];simp only[go_sem];dsimp only[maxLen] at hl;by_cases hkl:k<xs.length
  ·simp only[hkl,td,reduceCtorEq];refine ⟨fun h=>(idxF_at hkl hk.2 h).symm,fun h=>⟨k+1,by omega,⟨by omega,fun j hj=>?_⟩,i64_in _ (by omega)⟩⟩;rcases Nat.lt_succ_iff_lt_or_eq.1 hj with h'|rfl
   ·exact hk.2 j h'
   ·exact h
  ·simp only[hkl,td,reduceCtorEq];exact (idxF_none fun j hj=>hk.2 j (by omega)).symm
def entConFuncRid:Ent:=⟨92,.cons Z17 (.cons (.fn Z3 .bool) .nil),.bool,false,none,fun _=>True,fun x=>x.1.any x.2.1⟩
theorem conConFuncRid:Con Tryz.prog entConFuncRid:=by
 refine con_is (C:=[entIdxFuncRid]) x92 (by kernel_rfl) (by simp[conIdxFuncRid]) fun x _ hf=>?_;obtain ⟨(xs:List DRide),(p:DRide→Bool),_⟩:=x;dsimp only[entConFuncRid,entIdxFuncRid,x92];simp only[go_sem];refine eq_of_iff ?_;rw[←idxF_any];simp
def entIdxFuncI:Ent:=⟨146,.cons Z5 (.cons (.fn (.int .i64) .bool) .nil),(.int .i64),false,none,fun _=>True,fun x=>idxF x.2.1 x.1⟩
theorem conIdxFuncI:Con Tryz.prog entIdxFuncI:=by
 refine con_is (C:=[]) x146 (by kernel_rfl) (by simp) fun x _ hf=>?_;obtain ⟨(xs:List Int),(p:Int→Bool),_⟩:=x;have hl:xs.length≤maxLen:=hf.1.1;dsimp only[entIdxFuncI,x146];simp only[go_sem];refine XW_for 1000 x146_0d [] Nat (fun k=>[(8,.val Z1 (k:Int))]) (fun _=>[]) (fun k=>k≤xs.length∧∀j,j<k→p (xs.getD j 0)=false) (fun k=>xs.length-k) 0 ?_ ?_ ?_
 ·dsimp only[x146_0d];simp only[go_sem];rfl
 ·exact ⟨by omega,fun j hj=>by omega⟩
 ·intro k hk;dsimp only[x146_0,x146_0d];simp only[go_sem];dsimp only[maxLen] at hl;by_cases hkl:k<xs.length
  ·simp only[hkl,td,reduceCtorEq];refine ⟨fun h=>(idxF_at hkl hk.2 h).symm,fun h=>⟨k+1,by omega,⟨by omega,fun j hj=>?_⟩,i64_in _ (by omega)⟩⟩;rcases Nat.lt_succ_iff_lt_or_eq.1 hj with h'|rfl
   ·exact hk.2 j h'
   ·exact h
  ·simp only[hkl,td,reduceCtorEq];exact (idxF_none fun j hj=>hk.2 j (by omega)).symm
def entConFuncI:Ent:=⟨85,.cons Z5 (.cons (.fn (.int .i64) .bool) .nil),.bool,false,none,fun _=>True,fun x=>x.1.any x.2.1⟩
theorem conConFuncI:Con Tryz.prog entConFuncI:=by
 refine con_is (C:=[entIdxFuncI]) x85 (by kernel_rfl) (by simp[conIdxFuncI]) fun x _ hf=>?_;obtain ⟨(xs:List Int),(p:Int→Bool),_⟩:=x;dsimp only[entConFuncI,entIdxFuncI,x85];simp only[go_sem];refine eq_of_iff ?_;rw[←idxF_any];simp
def entRct1:Ent:=⟨87,.cons Z8 .nil,.bool,false,none,fun _=>True,fun x=>!winB x.1⟩
def csRc1:List Ent:=[] theorem hcsRc1 (f:FuncId):findEnt csRc1 f=findEnt [] f:=rfl
theorem conRct1:Con Tryz.prog entRct1:=by
 refine con_is (C:=csRc1) x87 (by kernel_rfl) (by simp[csRc1]) fun x hx hf=>?_;obtain ⟨⟨(a:Int),(b:Int)⟩,_⟩:=x;dsimp only[entRct1,x87];simp only[↓hcsRc1,go_sem];try simp only[td,reduceCtorEq]
 unfold winB;rw[Bool.eq_iff_iff];simp;try omega
def entRct2:Ent:=⟨88,.cons Z8 .nil,.bool,false,none,fun _=>True,fun x=>!legB x.1⟩
def csRc2:List Ent:=[] theorem hcsRc2 (f:FuncId):findEnt csRc2 f=findEnt [] f:=rfl
theorem conRct2:Con Tryz.prog entRct2:=by
 refine con_is (C:=csRc2) x88 (by kernel_rfl) (by simp[csRc2]) fun x hx hf=>?_;obtain ⟨⟨(a:Int),(b:Int)⟩,_⟩:=x;dsimp only[entRct2,x88];simp only[↓hcsRc2,go_sem];try simp only[td,reduceCtorEq]
 unfold legB;rw[Bool.eq_iff_iff];simp;try omega
def entRct3:Ent:=⟨89,.cons Z3 (.cons (.ptr (.int .i64)) .nil),.bool,false,none,fun _=>True,fun x=>!rideB x.2.1 x.1⟩
def csRc3:List Ent:=[] theorem hcsRc3 (f:FuncId):findEnt csRc3 f=findEnt [] f:=rfl
theorem conRct3:Con Tryz.prog entRct3:=by
 refine con_is (C:=csRc3) x89 (by kernel_rfl) (by simp[csRc3]) fun x hx hf=>?_;obtain ⟨⟨(a:Int),(b:Int),(d:Int)⟩,(n:Int),_⟩:=x;dsimp only[entRct3,x89];simp only[↓hcsRc3,go_sem];try simp only[td,reduceCtorEq]
 unfold rideB;rw[Bool.eq_iff_iff];simp;try omega
theorem not_any {α:Type} (l:List α) (p:α→Bool):(!l.any fun x=>!p x)=l.all p:=by
 rw[List.not_any_eq_all_not];simp
def entRctR:Ent:=⟨53,.cons Z18 .nil,.bool,false,none,fun _=>True,fun x=>rightC x.1⟩
def csRcR:List Ent:=[entConFuncWin,entConFuncLeg,entConFuncRid,entRct1,entRct2,entRct3] theorem hcsRcR (f:FuncId):findEnt csRcR f=findEnt [entConFuncWin,entConFuncLeg,entConFuncRid,entRct1,entRct2,entRct3] f:=rfl
theorem conRctR:Con Tryz.prog entRctR:=by
 refine con_is (C:=csRcR) x53 (by kernel_rfl) (by simp[csRcR,conConFuncWin,conConFuncLeg,conConFuncRid,conRct1,conRct2,conRct3]) fun x hx hf=>?_;obtain ⟨⟨(W:List DWin),(L:List DLeg),(R:List DRide)⟩,_⟩:=x;dsimp only[entRctR,x53];simp only[↓hcsRcR,entConFuncWin,entConFuncLeg,entConFuncRid,entRct1,entRct2,entRct3,go_sem];try simp only[td,reduceCtorEq]
 have hW:W.length≤9223372036854775807:=hf.1.1.1;have w:IntKind.i64.wrap ((W.length:Int)-1)=(W.length:Int)-1:=i64_in _ (by omega);rw[w];refine ⟨fun h=>?_,fun h=>?_⟩
 ·symm;rw[←Bool.not_eq_true];intro q;obtain ⟨q1,_⟩:=rightC_iff.1 q;dsimp only at q1;omega
 ·unfold rightC;rw[decide_eq_true (by dsimp only;omega),Bool.true_and,not_any,not_any,not_any,Bool.and_assoc]
end T
end Go.Proofs.YtpocfbfmjippnaaGreat
end
