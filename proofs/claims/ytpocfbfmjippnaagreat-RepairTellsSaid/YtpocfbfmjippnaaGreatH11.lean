/- Parts of the proof of the law; no condition. -/
import Derived.Test.YtpocfbfmjippnaaGreatH6
set_option linter.all false
section
namespace Go.Proofs.YtpocfbfmjippnaaGreat
open Go.RowKit Go.IntWalk
namespace T
def entIdxFuncWin:Ent:=⟨147,.cons Z9 (.cons (.fn Z8 .bool) .nil),(.int .i64),false,none,fun _=>True,fun x=>idxF x.2.1 x.1⟩
theorem conIdxFuncWin:Con Tryz.prog entIdxFuncWin:=by
 refine con_is (C:=[]) x147 (by kernel_rfl) (by simp) fun x _ hf=>?_;obtain ⟨(xs:List DWin),(p:DWin→Bool),_⟩:=x;have hl:xs.length≤maxLen:=hf.1.1;dsimp only[entIdxFuncWin,x147];simp only[go_sem];refine XW_for 1000 x147_0d [] Nat (fun k=>[(8,.val Z1 (k:Int))]) (fun _=>[]) (fun k=>k≤xs.length∧∀j,j<k→p (xs.getD j (0,0))=false) (fun k=>xs.length-k) 0 ?_ ?_ ?_
 ·dsimp only[x147_0d];simp only[go_sem];rfl
 ·exact ⟨by omega,fun j hj=>by omega⟩
 ·intro k hk;dsimp only[x147_0,x147_0d];simp only[go_sem];dsimp only[maxLen] at hl;by_cases hkl:k<xs.length
  ·simp only[hkl,td,reduceCtorEq];refine ⟨fun h=>(idxF_at hkl hk.2 h).symm,fun h=>⟨k+1,by omega,⟨by omega,fun j hj=>?_⟩,i64_in _ (by omega)⟩⟩;rcases Nat.lt_succ_iff_lt_or_eq.1 hj with h'|rfl
   ·exact hk.2 j h'
   ·exact h
  ·simp only[hkl,td,reduceCtorEq];exact (idxF_none fun j hj=>hk.2 j (by omega)).symm
def entConFuncWin:Ent:=⟨90,.cons Z9 (.cons (.fn Z8 .bool) .nil),.bool,false,none,fun _=>True,fun x=>x.1.any x.2.1⟩
theorem conConFuncWin:Con Tryz.prog entConFuncWin:=by
 refine con_is (C:=[entIdxFuncWin]) x90 (by kernel_rfl) (by simp[conIdxFuncWin]) fun x _ hf=>?_;obtain ⟨(xs:List DWin),(p:DWin→Bool),_⟩:=x;dsimp only[entConFuncWin,entIdxFuncWin,x90];simp only[go_sem];refine eq_of_iff ?_;rw[←idxF_any];simp
def entIdxFuncLeg:Ent:=⟨148,.cons Z9 (.cons (.fn Z8 .bool) .nil),(.int .i64),false,none,fun _=>True,fun x=>idxF x.2.1 x.1⟩
theorem conIdxFuncLeg:Con Tryz.prog entIdxFuncLeg:=by
 refine con_is (C:=[]) x148 (by kernel_rfl) (by simp) fun x _ hf=>?_;obtain ⟨(xs:List DLeg),(p:DLeg→Bool),_⟩:=x;have hl:xs.length≤maxLen:=hf.1.1;dsimp only[entIdxFuncLeg,x148];simp only[go_sem];refine XW_for 1000 x148_0d [] Nat (fun k=>[(8,.val Z1 (k:Int))]) (fun _=>[]) (fun k=>k≤xs.length∧∀j,j<k→p (xs.getD j (0,0))=false) (fun k=>xs.length-k) 0 ?_ ?_ ?_
 ·dsimp only[x148_0d];simp only[go_sem];rfl
 ·exact ⟨by omega,fun j hj=>by omega⟩
 ·intro k hk;dsimp only[x148_0,x148_0d];simp only[go_sem];dsimp only[maxLen] at hl;by_cases hkl:k<xs.length
  ·simp only[hkl,td,reduceCtorEq];refine ⟨fun h=>(idxF_at hkl hk.2 h).symm,fun h=>⟨k+1,by omega,⟨by omega,fun j hj=>?_⟩,i64_in _ (by omega)⟩⟩;rcases Nat.lt_succ_iff_lt_or_eq.1 hj with h'|rfl
   ·exact hk.2 j h'
   ·exact h
  ·simp only[hkl,td,reduceCtorEq];exact (idxF_none fun j hj=>hk.2 j (by omega)).symm
def entConFuncLeg:Ent:=⟨91,.cons Z9 (.cons (.fn Z8 .bool) .nil),.bool,false,none,fun _=>True,fun x=>x.1.any x.2.1⟩
theorem conConFuncLeg:Con Tryz.prog entConFuncLeg:=by
 refine con_is (C:=[entIdxFuncLeg]) x91 (by kernel_rfl) (by simp[conIdxFuncLeg]) fun x _ hf=>?_;obtain ⟨(xs:List DLeg),(p:DLeg→Bool),_⟩:=x;dsimp only[entConFuncLeg,entIdxFuncLeg,x91];simp only[go_sem];refine eq_of_iff ?_;rw[←idxF_any];simp
def entIdxFuncRid:Ent:=⟨149,.cons Z17 (.cons (.fn Z3 .bool) .nil),(.int .i64),false,none,fun _=>True,fun x=>idxF x.2.1 x.1⟩
theorem conIdxFuncRid:Con Tryz.prog entIdxFuncRid:=by
 refine con_is (C:=[]) x149 (by kernel_rfl) (by simp) fun x _ hf=>?_;obtain ⟨(xs:List DRide),(p:DRide→Bool),_⟩:=x;have hl:xs.length≤maxLen:=hf.1.1;dsimp only[entIdxFuncRid,x149];simp only[go_sem];refine XW_for 1000 x149_0d [] Nat (fun k=>[(8,.val Z1 (k:Int))]) (fun _=>[]) (fun k=>k≤xs.length∧∀j,j<k→p (xs.getD j (0,0,0))=false) (fun k=>xs.length-k) 0 ?_ ?_ ?_
 ·dsimp only[x149_0d];simp only[go_sem];rfl
 ·exact ⟨by omega,fun j hj=>by omega⟩
 ·intro k hk;dsimp only[x149_0,x149_0d];simp only[go_sem];dsimp only[maxLen] at hl;by_cases hkl:k<xs.length
  ·simp only[hkl,td,reduceCtorEq];refine ⟨fun h=>(idxF_at hkl hk.2 h).symm,fun h=>⟨k+1,by omega,⟨by omega,fun j hj=>?_⟩,i64_in _ (by omega)⟩⟩;rcases Nat.lt_succ_iff_lt_or_eq.1 hj with h'|rfl
   ·exact hk.2 j h'
   ·exact h
  ·simp only[hkl,td,reduceCtorEq];exact (idxF_none fun j hj=>hk.2 j (by omega)).symm
def entConFuncRid:Ent:=⟨92,.cons Z17 (.cons (.fn Z3 .bool) .nil),.bool,false,none,fun _=>True,fun x=>x.1.any x.2.1⟩
theorem conConFuncRid:Con Tryz.prog entConFuncRid:=by
 refine con_is (C:=[entIdxFuncRid]) x92 (by kernel_rfl) (by simp[conIdxFuncRid]) fun x _ hf=>?_;obtain ⟨(xs:List DRide),(p:DRide→Bool),_⟩:=x;dsimp only[entConFuncRid,entIdxFuncRid,x92];simp only[go_sem];refine eq_of_iff ?_;rw[←idxF_any];simp
def entIdxFuncI:Ent:=⟨146,.cons Z5 (.cons (.fn (.int .i64) .bool) .nil),(.int .i64),false,none,fun _=>True,fun x=>idxF x.2.1 x.1⟩
theorem conIdxFuncI:Con Tryz.prog entIdxFuncI:=by
 refine con_is (C:=[]) x146 (by kernel_rfl) (by simp) fun x _ hf=>?_;obtain ⟨(xs:List Int),(p:Int→Bool),_⟩:=x;have hl:xs.length≤maxLen:=hf.1.1;dsimp only[entIdxFuncI,x146];simp only[go_sem];refine XW_for 1000 x146_0d [] Nat (fun k=>[(8,.val Z1 (k:Int))]) (fun _=>[]) (fun k=>k≤xs.length∧∀j,j<k→p (xs.getD j 0)=false) (fun k=>xs.length-k) 0 ?_ ?_ ?_
 ·dsimp only[x146_0d];simp only[go_sem];rfl
 ·exact ⟨by omega,fun j hj=>by omega⟩
 ·intro k hk;dsimp only[x146_0,x146_0d];simp only[go_sem];dsimp only[maxLen] at hl;by_cases hkl:k<xs.length
  ·simp only[hkl,td,reduceCtorEq];refine ⟨fun h=>(idxF_at hkl hk.2 h).symm,fun h=>⟨k+1,by omega,⟨by omega,fun j hj=>?_⟩,i64_in _ (by omega)⟩⟩;rcases Nat.lt_succ_iff_lt_or_eq.1 hj with h'|rfl
   ·exact hk.2 j h'
   ·exact h
  ·simp only[hkl,td,reduceCtorEq];exact (idxF_none fun j hj=>hk.2 j (by omega)).symm
def entConFuncI:Ent:=⟨85,.cons Z5 (.cons (.fn (.int .i64) .bool) .nil),.bool,false,none,fun _=>True,fun x=>x.1.any x.2.1⟩
theorem conConFuncI:Con Tryz.prog entConFuncI:=by
 refine con_is (C:=[entIdxFuncI]) x85 (by kernel_rfl) (by simp[conIdxFuncI]) fun x _ hf=>?_;obtain ⟨(xs:List Int),(p:Int→Bool),_⟩:=x;dsimp only[entConFuncI,entIdxFuncI,x85];simp only[go_sem];refine eq_of_iff ?_;rw[←idxF_any];simp
def entRct1:Ent:=⟨87,.cons Z8 .nil,.bool,false,none,fun _=>True,fun x=>!winB x.1⟩
def csRc1:List Ent:=[] theorem hcsRc1 (f:FuncId):findEnt csRc1 f=findEnt [] f:=rfl
theorem conRct1:Con Tryz.prog entRct1:=by
 refine con_is (C:=csRc1) x87 (by kernel_rfl) (by simp[csRc1]) fun x hx hf=>?_;obtain ⟨⟨(a:Int),(b:Int)⟩,_⟩:=x;dsimp only[entRct1,x87];simp only[↓hcsRc1,go_sem];try simp only[td,reduceCtorEq]
 unfold winB;rw[Bool.eq_iff_iff];simp;try omega
def entRct2:Ent:=⟨88,.cons Z8 .nil,.bool,false,none,fun _=>True,fun x=>!legB x.1⟩
def csRc2:List Ent:=[] theorem hcsRc2 (f:FuncId):findEnt csRc2 f=findEnt [] f:=rfl
theorem conRct2:Con Tryz.prog entRct2:=by
 refine con_is (C:=csRc2) x88 (by kernel_rfl) (by simp[csRc2]) fun x hx hf=>?_;obtain ⟨⟨(a:Int),(b:Int)⟩,_⟩:=x;dsimp only[entRct2,x88];simp only[↓hcsRc2,go_sem];try simp only[td,reduceCtorEq]
 unfold legB;rw[Bool.eq_iff_iff];simp;try omega
def entRct3:Ent:=⟨89,.cons Z3 (.cons (.ptr (.int .i64)) .nil),.bool,false,none,fun _=>True,fun x=>!rideB x.2.1 x.1⟩
def csRc3:List Ent:=[] theorem hcsRc3 (f:FuncId):findEnt csRc3 f=findEnt [] f:=rfl
theorem conRct3:Con Tryz.prog entRct3:=by
 refine con_is (C:=csRc3) x89 (by kernel_rfl) (by simp[csRc3]) fun x hx hf=>?_;obtain ⟨⟨(a:Int),(b:Int),(d:Int)⟩,(n:Int),_⟩:=x;dsimp only[entRct3,x89];simp only[↓hcsRc3,go_sem];try simp only[td,reduceCtorEq]
 unfold rideB;rw[Bool.eq_iff_iff];simp;try omega
theorem not_any {α:Type} (l:List α) (p:α→Bool):(!l.any fun x=>!p x)=l.all p:=by
 rw[List.not_any_eq_all_not];simp
def entRctR:Ent:=⟨53,.cons Z18 .nil,.bool,false,none,fun _=>True,fun x=>rightC x.1⟩
def csRcR:List Ent:=[entConFuncWin,entConFuncLeg,entConFuncRid,entRct1,entRct2,entRct3] theorem hcsRcR (f:FuncId):findEnt csRcR f=findEnt [entConFuncWin,entConFuncLeg,entConFuncRid,entRct1,entRct2,entRct3] f:=rfl
theorem conRctR:Con Tryz.prog entRctR:=by
 refine con_is (C:=csRcR) x53 (by kernel_rfl) (by simp[csRcR,conConFuncWin,conConFuncLeg,conConFuncRid,conRct1,conRct2,conRct3]) fun x hx hf=>?_;obtain ⟨⟨(W:List DWin),(L:List DLeg),(R:List DRide)⟩,_⟩:=x;dsimp only[entRctR,x53];simp only[↓hcsRcR,entConFuncWin,entConFuncLeg,entConFuncRid,entRct1,entRct2,entRct3,go_sem];try simp only[td,reduceCtorEq]
 have hW:W.length≤9223372036854775807:=hf.1.1.1;have w:IntKind.i64.wrap ((W.length:Int)-1)=(W.length:Int)-1:=i64_in _ (by omega);rw[w];refine ⟨fun h=>?_,fun h=>?_⟩
 ·symm;rw[←Bool.not_eq_true];intro q;obtain ⟨q1,_⟩:=rightC_iff.1 q;dsimp only at q1;omega
 ·unfold rightC;rw[decide_eq_true (by dsimp only;omega),Bool.true_and,not_any,not_any,not_any,Bool.and_assoc]
def entWin:Ent:=⟨160,.cons Z1 (.cons Z1 (.cons Z1 .nil)),.bool,false,none,fun _=>True,fun x=>decide ((x.2.1:Int)≤(x.1:Int)∧(x.1:Int)≤(x.2.2.1:Int))⟩
def csWi:List Ent:=[] theorem hcsWi (f:FuncId):findEnt csWi f=findEnt [] f:=rfl
theorem conWin:Con Tryz.prog entWin:=by
 refine con_is (C:=csWi) x160 (by kernel_rfl) (by simp[csWi]) fun x hx hf=>?_;obtain ⟨(n:Int),(a:Int),(b:Int),_⟩:=x;dsimp only[entWin,x160];simp only[↓hcsWi,go_sem];try simp only[td,reduceCtorEq]
 rw[Bool.eq_iff_iff];simp
def entWk1:Ent:=⟨159,.cons Z8 .nil,.bool,false,none,fun _=>True,fun x=>!legB x.1⟩
def csWk1:List Ent:=[entWin] theorem hcsWk1 (f:FuncId):findEnt csWk1 f=findEnt [entWin] f:=rfl
theorem conWk1:Con Tryz.prog entWk1:=by
 refine con_is (C:=csWk1) x159 (by kernel_rfl) (by simp[csWk1,conWin]) fun x hx hf=>?_;obtain ⟨⟨(a:Int),(b:Int)⟩,_⟩:=x;dsimp only[entWk1,x159];simp only[↓hcsWk1,entWin,go_sem];try simp only[td,reduceCtorEq]
 unfold legB;rw[Bool.eq_iff_iff];simp;try omega
def entWkR:Ent:=⟨109,.cons Z3 (.cons Z9 (.cons Z9 .nil)),.bool,false,none,fun _=>True,fun x=>rightK x.1 x.2.1 x.2.2.1⟩
def csWkR:List Ent:=[entWin,entWk1,entConFuncLeg] theorem hcsWkR (f:FuncId):findEnt csWkR f=findEnt [entWin,entWk1,entConFuncLeg] f:=rfl
theorem conWkR:Con Tryz.prog entWkR:=by
 refine con_is (C:=csWkR) x109 (by kernel_rfl) (by simp[csWkR,conWin,conWk1,conConFuncLeg]) fun x hx hf=>?_;obtain ⟨⟨(a:Int),(b:Int),(d:Int)⟩,(l:List DLeg),(w:List DLeg),_⟩:=x;dsimp only[entWkR,x109];simp only[↓hcsWkR,entWin,entWk1,entConFuncLeg,go_sem];try simp only[td,reduceCtorEq]
 unfold rightK longB;rw[not_any,not_any,Bool.eq_iff_iff];simp only[Bool.and_eq_true,decide_eq_true_eq,beq_iff_eq];constructor
 ·rintro ⟨⟨⟨⟨⟨⟨h1,h2⟩,h3⟩,h4⟩,h5⟩,h6⟩,h7⟩;exact ⟨⟨h1,h2,h3⟩,⟨by omega,by omega⟩,h6,h7⟩
 ·rintro ⟨⟨h1,h2,h3⟩,⟨h4,h5⟩,h6,h7⟩;exact ⟨⟨⟨⟨⟨⟨h1,h2⟩,h3⟩,by omega⟩,by omega⟩,h6⟩,h7⟩
def entWalk:Ent:=⟨152,.cons Z3 (.cons Z9 (.cons Z9 .nil)),.cons Z1 (.cons Z1 (.cons Z1 .nil)),true,none,fun x=>rightK x.1 x.2.1 x.2.2.1=true,fun x=>(if fstK x.1 x.2.1 x.2.2.1<0 then drvF (x.1:DShift).2.1 (highsF x.2.1) (lowsF x.2.2.1) (List.length (α:=DLeg) x.2.1) else 0,if fstK x.1 x.2.1 x.2.2.1<0 then wrkF (highsF x.2.1) (highsF x.2.2.1) (List.length (α:=DLeg) x.2.1) else 0,fstK x.1 x.2.1 x.2.2.1,())⟩
def csWlk:List Ent:=[] theorem hcsWlk (f:FuncId):findEnt csWlk f=findEnt [] f:=rfl
theorem conWalk:Con Tryz.prog entWalk:=by
 refine con_is (C:=csWlk) x152 (by kernel_rfl) (by simp[csWlk]) fun x hx hf=>?_;obtain ⟨⟨(D:Int),(B:Int),(K:Int)⟩,(l:List DLeg),(w:List DLeg),_⟩:=x;have hx:rightK (D,B,K) l w=true:=hx;obtain ⟨_,⟨h1,h2⟩,h3,h4⟩:=rightK_iff.1 hx;have hd:=fun j=>drv_bd (rest:=B) (w:=lowsF w) (legs_high h3) j;have hk:=fun j=>wrk_bd (legs_high h3) (legs_high h4) j;dsimp only[entWalk,x152];simp only[↓hcsWlk,go_sem];try simp only[td,reduceCtorEq]
 refine XW_for 1000 x152_0d [0] Nat (fun j=>[(13,.val Z1 (j:Int)),(6,.val Z1 (drvF B (highsF l) (lowsF w) j)),(7,.val Z1 (wrkF (highsF l) (highsF w) j))]) (fun _=>[]) (fun j=>j≤l.length∧∀k,k<j→badK (D,B,K) l w k=false) (fun j=>l.length-j) 0 ?_ ?_ ?_
 ·dsimp only[x152_0d];simp only[go_sem];exact ⟨rfl,rfl,rfl⟩
 ·exact ⟨Nat.zero_le _,fun k hk=>absurd hk (Nat.not_lt_zero _)⟩
 rintro j ⟨hj,hn⟩;by_cases hj':j<l.length
 ·have w2:IntKind.i64.wrap ((j:Int)+1)=((j+1:Nat):Int):=i64_in _ (by omega);have hjw:j<w.length:=by omega
  have hd1:=hd (j+1);have hk1:=hk (j+1);have ed:drvF B (highsF l) (lowsF w) (j+1)=(if (w.getD j (0,0)).1≥B then 0 else drvF B (highsF l) (lowsF w) j)+(l.getD j (0,0)).2:=by
   show (if (lowsF w).getD j 0≥B then 0 else _)+(highsF l).getD j 0=_;rw[lows_getD,highs_getD]
  have ek:wrkF (highsF l) (highsF w) (j+1)=wrkF (highsF l) (highsF w) j+(if 0<j then (w.getD j (0,0)).2 else 0)+(l.getD j (0,0)).2:=by
   show _+(if 0<j then (highsF w).getD j 0 else 0)+(highsF l).getD j 0=_;rw[highs_getD,highs_getD]
  dsimp only[x152_0,x152_0d];simp only[↓hcsWlk,entWalk,hj',hjw,w2,go_sem];try simp only[hj',hjw,w2,td,reduceCtorEq]
  have hdj:=hd j;have hkj:=hk j;have hl1:=(legs_high h3).getD (Int.le_refl _) (by omega) j;have hw1:=(legs_high h4).getD (Int.le_refl _) (by omega) j;rw[highs_getD] at hl1 hw1;have fin:(D<drvF B (highsF l) (lowsF w) (j+1)∨K<wrkF (highsF l) (highsF w) (j+1)→(0,0,(j:Int),())=(if fstK (D,B,K) l w<0 then drvF B (highsF l) (lowsF w) l.length else 0,if fstK (D,B,K) l w<0 then wrkF (highsF l) (highsF w) l.length else 0,fstK (D,B,K) l w,()))∧
    (drvF B (highsF l) (lowsF w) (j+1)≤D∧wrkF (highsF l) (highsF w) (j+1)≤K→∃x':Nat,l.length-x'<l.length-j∧(x'≤l.length∧∀k:Nat,k<x'→badK (D,B,K) l w k=false)∧j+1=x'∧drvF B (highsF l) (lowsF w) (j+1)=drvF B (highsF l) (lowsF w) x'∧wrkF (highsF l) (highsF w) (j+1)=wrkF (highsF l) (highsF w) x'):=by
   have hbk:badK (D,B,K) l w j=(decide (D<drvF B (highsF l) (lowsF w) (j+1))||decide (K<wrkF (highsF l) (highsF w) (j+1))):=rfl
   refine ⟨fun h=>?_,fun h=>⟨j+1,by omega,⟨hj',fun k hk=>?_⟩,rfl,rfl,rfl⟩⟩
   ·have:fstK (D,B,K) l w=j:=fstK_at hj' hn (by
     rw[hbk,Bool.or_eq_true,decide_eq_true_eq,decide_eq_true_eq];exact h)
    rw[this,if_neg (by omega),if_neg (by omega)]
   ·by_cases c:k=j
    ·subst c
     rw[hbk,Bool.or_eq_false_iff,decide_eq_false_iff_not,decide_eq_false_iff_not]
     omega
    ·exact hn k (by omega)
  refine ⟨fun hb=>⟨fun hp=>?_,fun hp=>?_⟩,fun hb=>⟨fun hp=>?_,fun hp=>?_⟩⟩
  ·rw[if_pos hb] at ed;rw[if_pos (by omega)] at ek;rw[i64_in (0+(l.getD j (0,0)).2) (by omega),←ed,i64_in (wrkF (highsF l) (highsF w) j+(w.getD j (0,0)).2) (by omega),i64_in (wrkF (highsF l) (highsF w) j+(w.getD j (0,0)).2+(l.getD j (0,0)).2) (by omega),←ek];exact fin
  ·rw[if_pos hb] at ed;rw[if_neg (by omega),Int.add_zero] at ek;rw[i64_in (0+(l.getD j (0,0)).2) (by omega),←ed,i64_in (wrkF (highsF l) (highsF w) j+(l.getD j (0,0)).2) (by omega),←ek];exact fin
  ·rw[if_neg (by omega)] at ed;rw[if_pos (by omega)] at ek;rw[i64_in (drvF B (highsF l) (lowsF w) j+(l.getD j (0,0)).2) (by omega),←ed,i64_in (wrkF (highsF l) (highsF w) j+(w.getD j (0,0)).2) (by omega),i64_in (wrkF (highsF l) (highsF w) j+(w.getD j (0,0)).2+(l.getD j (0,0)).2) (by omega),←ek];exact fin
  ·rw[if_neg (by omega)] at ed;rw[if_neg (by omega),Int.add_zero] at ek;rw[i64_in (drvF B (highsF l) (lowsF w) j+(l.getD j (0,0)).2) (by omega),←ed,i64_in (wrkF (highsF l) (highsF w) j+(l.getD j (0,0)).2) (by omega),←ek];exact fin
 ·dsimp only[x152_0,x152_0d];simp only[↓hcsWlk,entWalk,hj',go_sem];try simp only[hj',td,reduceCtorEq]
  obtain rfl:j=l.length:=by omega
  rw[fstK_none hn,if_pos (by decide),if_pos (by decide)]
def entWCk:Ent:=⟨100,.cons Z3 (.cons Z9 (.cons Z9 .nil)),.cons Z1 (.cons Z1 .nil),true,none,fun _=>True,fun x=>((checkK x.1 x.2.1 x.2.2.1).1,(checkK x.1 x.2.1 x.2.2.1).2,())⟩
def csWCk:List Ent:=[entWkR,entWalk] theorem hcsWCk (f:FuncId):findEnt csWCk f=findEnt [entWkR,entWalk] f:=rfl
theorem conWCk:Con Tryz.prog entWCk:=by
 refine con_is (C:=csWCk) x100 (by kernel_rfl) (by simp[csWCk,conWkR,conWalk]) fun x hx hf=>?_;obtain ⟨⟨(D:Int),(B:Int),(K:Int)⟩,(l:List DLeg),(w:List DLeg),_⟩:=x;dsimp only[entWCk,x100];simp only[↓hcsWCk,entWkR,entWalk,go_sem];try simp only[td,reduceCtorEq]
 refine ⟨fun h=>by unfold checkK;rw[if_pos h],fun h=>⟨h,fun q=>?_,fun q=>?_⟩⟩
 ·unfold checkK;rw[if_neg (by rw[h];simp),if_neg (by omega)]
 ·unfold checkK;rw[if_neg (by rw[h];simp),if_pos (by omega)]
end T
end Go.Proofs.YtpocfbfmjippnaaGreat
end
