/- Parts of the proof of the law; no condition. -/
import Derived.Test.YtpocfbfmjippnaaGreatH11
set_option linter.all false
section
namespace Go.Proofs.YtpocfbfmjippnaaGreat
open Go.RowKit Go.IntWalk
namespace T
def entIdxFuncCar:Ent:=⟨156,.cons Z20 (.cons (.fn Z19 .bool) .nil),(.int .i64),false,none,fun _=>True,fun x=>idxF x.2.1 x.1⟩
theorem conIdxFuncCar:Con Tryz.prog entIdxFuncCar:=by
 refine con_is (C:=[]) x156 (by kernel_rfl) (by simp) fun x _ hf=>?_;obtain ⟨(xs:List DCar),(p:DCar→Bool),_⟩:=x;have hl:xs.length≤maxLen:=hf.1.1;dsimp only[entIdxFuncCar,x156];simp only[go_sem];refine XW_for 1000 x156_0d [] Nat (fun k=>[(8,.val Z1 (k:Int))]) (fun _=>[]) (fun k=>k≤xs.length∧∀j,j<k→p (xs.getD j (0,0,0,0,0,0,0,0,0))=false) (fun k=>xs.length-k) 0 ?_ ?_ ?_
 ·dsimp only[x156_0d];simp only[go_sem];rfl
 ·exact ⟨by omega,fun j hj=>by omega⟩
 ·intro k hk;dsimp only[x156_0,x156_0d];simp only[go_sem];dsimp only[maxLen] at hl;by_cases hkl:k<xs.length
  ·simp only[hkl,td,reduceCtorEq];refine ⟨fun h=>(idxF_at hkl hk.2 h).symm,fun h=>⟨k+1,by omega,⟨by omega,fun j hj=>?_⟩,i64_in _ (by omega)⟩⟩;rcases Nat.lt_succ_iff_lt_or_eq.1 hj with h'|rfl
   ·exact hk.2 j h'
   ·exact h
  ·simp only[hkl,td,reduceCtorEq];exact (idxF_none fun j hj=>hk.2 j (by omega)).symm
def entConFuncCar:Ent:=⟨106,.cons Z20 (.cons (.fn Z19 .bool) .nil),.bool,false,none,fun _=>True,fun x=>x.1.any x.2.1⟩
theorem conConFuncCar:Con Tryz.prog entConFuncCar:=by
 refine con_is (C:=[entIdxFuncCar]) x106 (by kernel_rfl) (by simp[conIdxFuncCar]) fun x _ hf=>?_;obtain ⟨(xs:List DCar),(p:DCar→Bool),_⟩:=x;dsimp only[entConFuncCar,entIdxFuncCar,x106];simp only[go_sem];refine eq_of_iff ?_;rw[←idxF_any];simp
def entIdxFuncReq:Ent:=⟨157,.cons Z7 (.cons (.fn Z6 .bool) .nil),(.int .i64),false,none,fun _=>True,fun x=>idxF x.2.1 x.1⟩
theorem conIdxFuncReq:Con Tryz.prog entIdxFuncReq:=by
 refine con_is (C:=[]) x157 (by kernel_rfl) (by simp) fun x _ hf=>?_;obtain ⟨(xs:List DReq),(p:DReq→Bool),_⟩:=x;have hl:xs.length≤maxLen:=hf.1.1;dsimp only[entIdxFuncReq,x157];simp only[go_sem];refine XW_for 1000 x157_0d [] Nat (fun k=>[(8,.val Z1 (k:Int))]) (fun _=>[]) (fun k=>k≤xs.length∧∀j,j<k→p (xs.getD j dReq)=false) (fun k=>xs.length-k) 0 ?_ ?_ ?_
 ·dsimp only[x157_0d];simp only[go_sem];rfl
 ·exact ⟨by omega,fun j hj=>by omega⟩
 ·intro k hk;dsimp only[x157_0,x157_0d];simp only[go_sem];dsimp only[maxLen] at hl;by_cases hkl:k<xs.length
  ·simp only[hkl,td,reduceCtorEq];refine ⟨fun h=>(idxF_at hkl hk.2 h).symm,fun h=>⟨k+1,by omega,⟨by omega,fun j hj=>?_⟩,i64_in _ (by omega)⟩⟩;rcases Nat.lt_succ_iff_lt_or_eq.1 hj with h'|rfl
   ·exact hk.2 j h'
   ·exact h
  ·simp only[hkl,td,reduceCtorEq];exact (idxF_none fun j hj=>hk.2 j (by omega)).symm
def entConFuncReq:Ent:=⟨107,.cons Z7 (.cons (.fn Z6 .bool) .nil),.bool,false,none,fun _=>True,fun x=>x.1.any x.2.1⟩
theorem conConFuncReq:Con Tryz.prog entConFuncReq:=by
 refine con_is (C:=[entIdxFuncReq]) x107 (by kernel_rfl) (by simp[conIdxFuncReq]) fun x _ hf=>?_;obtain ⟨(xs:List DReq),(p:DReq→Bool),_⟩:=x;dsimp only[entConFuncReq,entIdxFuncReq,x107];simp only[go_sem];refine eq_of_iff ?_;rw[←idxF_any];simp
def entIdxFuncPr:Ent:=⟨158,.cons Z16 (.cons (.fn Z4 .bool) .nil),(.int .i64),false,none,fun _=>True,fun x=>idxF x.2.1 x.1⟩
theorem conIdxFuncPr:Con Tryz.prog entIdxFuncPr:=by
 refine con_is (C:=[]) x158 (by kernel_rfl) (by simp) fun x _ hf=>?_;obtain ⟨(xs:List DPair),(p:DPair→Bool),_⟩:=x;have hl:xs.length≤maxLen:=hf.1.1;dsimp only[entIdxFuncPr,x158];simp only[go_sem];refine XW_for 1000 x158_0d [] Nat (fun k=>[(8,.val Z1 (k:Int))]) (fun _=>[]) (fun k=>k≤xs.length∧∀j,j<k→p (xs.getD j (0,0,false))=false) (fun k=>xs.length-k) 0 ?_ ?_ ?_
 ·dsimp only[x158_0d];simp only[go_sem];rfl
 ·exact ⟨by omega,fun j hj=>by omega⟩
 ·intro k hk;dsimp only[x158_0,x158_0d];simp only[go_sem];dsimp only[maxLen] at hl;by_cases hkl:k<xs.length
  ·simp only[hkl,td,reduceCtorEq];refine ⟨fun h=>(idxF_at hkl hk.2 h).symm,fun h=>⟨k+1,by omega,⟨by omega,fun j hj=>?_⟩,i64_in _ (by omega)⟩⟩;rcases Nat.lt_succ_iff_lt_or_eq.1 hj with h'|rfl
   ·exact hk.2 j h'
   ·exact h
  ·simp only[hkl,td,reduceCtorEq];exact (idxF_none fun j hj=>hk.2 j (by omega)).symm
def entConFuncPr:Ent:=⟨108,.cons Z16 (.cons (.fn Z4 .bool) .nil),.bool,false,none,fun _=>True,fun x=>x.1.any x.2.1⟩
theorem conConFuncPr:Con Tryz.prog entConFuncPr:=by
 refine con_is (C:=[entIdxFuncPr]) x108 (by kernel_rfl) (by simp[conIdxFuncPr]) fun x _ hf=>?_;obtain ⟨(xs:List DPair),(p:DPair→Bool),_⟩:=x;dsimp only[entConFuncPr,entIdxFuncPr,x108];simp only[go_sem];refine eq_of_iff ?_;rw[←idxF_any];simp
def entPin1:Ent:=⟨86,.cons Z1 (.cons (.ptr (.int .i64)) .nil),.bool,false,none,fun _=>True,fun x=>!decide (0≤(x.1:Int)∧(x.1:Int)≤(x.2.1:Int))⟩
def csPi1:List Ent:=[] theorem hcsPi1 (f:FuncId):findEnt csPi1 f=findEnt [] f:=rfl
theorem conPin1:Con Tryz.prog entPin1:=by
 refine con_is (C:=csPi1) x86 (by kernel_rfl) (by simp[csPi1]) fun x hx hf=>?_;obtain ⟨(n:Int),(m:Int),_⟩:=x;dsimp only[entPin1,x86];simp only[↓hcsPi1,go_sem];try simp only[td,reduceCtorEq]
 rw[Bool.eq_iff_iff];simp;try omega
def entPin:Ent:=⟨52,.cons Z1 (.cons Z5 .nil),.bool,false,none,fun _=>True,fun x=>allIn x.1 x.2.1⟩
def csPin:List Ent:=[entPin1,entConFuncI] theorem hcsPin (f:FuncId):findEnt csPin f=findEnt [entPin1,entConFuncI] f:=rfl
theorem conPin:Con Tryz.prog entPin:=by
 refine con_is (C:=csPin) x52 (by kernel_rfl) (by simp[csPin,conPin1,conConFuncI]) fun x hx hf=>?_;obtain ⟨(m:Int),(l:List Int),_⟩:=x;dsimp only[entPin,x52];simp only[↓hcsPin,entPin1,entConFuncI,go_sem];try simp only[td,reduceCtorEq]
 unfold allIn;rw[not_any]
def entPr1:Ent:=⟨103,.cons Z19 (.cons Z28 .nil),.bool,false,none,fun _=>True,fun x=>!carB (IntKind.i64.wrap ((x.2.1:DWorld).1-1)) x.1⟩
def csPr1:List Ent:=[entPin] theorem hcsPr1 (f:FuncId):findEnt csPr1 f=findEnt [entPin] f:=rfl
set_option maxHeartbeats 4000000 in
theorem conPr1:Con Tryz.prog entPr1:=by
 refine con_is (C:=csPr1) x103 (by kernel_rfl) (by simp[csPr1,conPin]) fun x hx hf=>?_;obtain ⟨⟨(o:Int),(n:Int),(r:Int),(e:Int),(s:Int),(c:Int),(b:Int),(g:Int),(f:Int)⟩,⟨(N:Int),(A:List DArc),(C:List DCar),(Q:List DReq),(P:List DPair),(S:DShift)⟩,_⟩:=x;cases h1:allIn (IntKind.i64.wrap (N-1)) [n]<;>cases h2:allIn 1048576 [r,e]<;>by_cases h3:r>e<;>
 ·have h3':=h3;rw[gt_iff_lt] at h3';dsimp only[entPr1,x103];simp only[↓hcsPr1,entPin,undef,h1,h2,h3,h3',go_sem];try simp only[h1,h2,h3,td,reduceCtorEq]
  unfold carB;simp[h1,h2,h3];try omega
def entPr2:Ent:=⟨104,.cons Z6 (.cons Z28 .nil),.bool,false,none,fun _=>True,fun x=>!reqB (IntKind.i64.wrap ((x.2.1:DWorld).1-1)) x.1⟩
def csPr2:List Ent:=[entPin] theorem hcsPr2 (f:FuncId):findEnt csPr2 f=findEnt [entPin] f:=rfl
set_option maxHeartbeats 4000000 in
theorem conPr2:Con Tryz.prog entPr2:=by
 refine con_is (C:=csPr2) x104 (by kernel_rfl) (by simp[csPr2,conPin]) fun x hx hf=>?_;obtain ⟨⟨(m:Int),(f:Int),(t:Int),(e:Int),(l:Int),(d:Int),(r:Int),(s:Int),(c:Int),(b:Int)⟩,⟨(N:Int),(A:List DArc),(C:List DCar),(Q:List DReq),(P:List DPair),(S:DShift)⟩,_⟩:=x;cases h1:allIn 1048576 [e,l,d,r]<;>by_cases h2:e≤l<;>cases h3:allIn 3999 [m]<;>cases h4:allIn (IntKind.i64.wrap (N-1)) [f,t]<;>
 ·dsimp only[entPr2,x104];simp only[↓hcsPr2,entPin,undef,h1,h2,h3,h4,go_sem];try simp only[h1,h2,h3,h4,td,reduceCtorEq]
  unfold reqB;simp[h1,h2,h3,h4]
def entPr3:Ent:=⟨105,.cons Z4 .nil,.bool,false,none,fun _=>True,fun x=>!prB x.1⟩
def csPr3:List Ent:=[entPin] theorem hcsPr3 (f:FuncId):findEnt csPr3 f=findEnt [entPin] f:=rfl
theorem conPr3:Con Tryz.prog entPr3:=by
 refine con_is (C:=csPr3) x105 (by kernel_rfl) (by simp[csPr3,conPin]) fun x hx hf=>?_;obtain ⟨⟨(a:Int),(b:Int),(m:Bool)⟩,_⟩:=x;dsimp only[entPr3,x105];simp only[↓hcsPr3,entPin,go_sem];try simp only[td,reduceCtorEq]
 rfl
def entPlR:Ent:=⟨61,.cons Z21 .nil,.bool,false,none,fun _=>True,fun x=>rightP x.1⟩
def csPlR:List Ent:=[entRoad,entConFuncCar,entConFuncReq,entConFuncPr,entPr1,entPr2,entPr3,entWkR] theorem hcsPlR (f:FuncId):findEnt csPlR f=findEnt [entRoad,entConFuncCar,entConFuncReq,entConFuncPr,entPr1,entPr2,entPr3,entWkR] f:=rfl
theorem conPlR:Con Tryz.prog entPlR:=by
 refine con_is (C:=csPlR) x61 (by kernel_rfl) (by simp[csPlR,conRoad,conConFuncCar,conConFuncReq,conConFuncPr,conPr1,conPr2,conPr3,conWkR]) fun x hx hf=>?_;obtain ⟨⟨(N:Int),(A:List DArc),(C:List DCar),(Q:List DReq),(P:List DPair),(S:DShift)⟩,_⟩:=x;dsimp only[entPlR,x61];simp only[↓hcsPlR,entRoad,entConFuncCar,entConFuncReq,entConFuncPr,entPr1,entPr2,entPr3,entWkR,go_sem];try simp only[td,reduceCtorEq]
 obtain ⟨S1,S2,S3⟩:=S;refine ⟨fun h=>?_,?_⟩
 ·symm;rw[←Bool.not_eq_true];intro q;obtain ⟨q1,q2,_⟩:=rightP_iff.1 q;dsimp only at q1 q2;rcases h with ((h|h)|h)|h
  ·rw[h] at q1;cases q1
  ·omega
  ·omega
  ·omega
 ·rintro ⟨⟨⟨h1,h2⟩,h3⟩,h4⟩;have hn:=rightR_n h1;rw[i64_in (N-1) (by omega),not_any,not_any,not_any];unfold rightP;dsimp only;rw[h1,decide_eq_true (by omega),Bool.true_and,Bool.true_and,Bool.and_assoc,Bool.and_assoc]
end T
end Go.Proofs.YtpocfbfmjippnaaGreat
end
