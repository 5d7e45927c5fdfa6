/- Parts of the proof of the law; no condition. -/
import Derived.Test.YtcnfmabhghhdnaaGreatA6
set_option linter.all false
section
namespace Go.Proofs.YtcnfmabhghhdnaaGreat
open Go.RowKit Go.IntWalk
namespace T
def entIdxFuncA:Ent:=⟨195,.cons Z18 (.cons (.fn Z15 .bool) .nil),(.int .i64),false,none,fun _=>True,fun x=>idxF x.2.1 x.1⟩
theorem conIdxFuncA:Con Tryz.prog entIdxFuncA:=by
 refine con_is (C:=[]) x195 (by kernel_rfl) (by simp) fun x _ hf=>?_;obtain ⟨(xs:List DArc),(p:DArc→Bool),_⟩:=x;have hl:xs.length≤maxLen:=hf.1.1;dsimp only[entIdxFuncA,x195,Zb,Zg];simp only[go_sem];refine XW_for 1000 x195_0d [] Nat (fun k=>[(8,.val Z1 (k:Int))]) (fun _=>[]) (fun k=>k≤xs.length∧∀j,j<k→p (xs.getD j (0,0,[],[]))=false) (fun k=>xs.length-k) 0 ?_ ?_ ?_
 ·dsimp only[x195_0d];simp only[go_sem];rfl
 ·exact ⟨by omega,fun j hj=>by omega⟩
 ·intro k hk;dsimp only[x195_0,x195_0d,Z15,Za,Zb,Zg];simp only[go_sem];dsimp only[maxLen] at hl;by_cases hkl:k<xs.length
  ·simp only[hkl,td,reduceCtorEq];refine ⟨fun h=>(idxF_at hkl hk.2 h).symm,fun h=>⟨k+1,by omega,⟨by omega,fun j hj=>?_⟩,i64_in _ (by omega)⟩⟩;rcases Nat.lt_succ_iff_lt_or_eq.1 hj with h'|rfl
   ·exact hk.2 j h'
   ·exact h
  ·simp only[hkl,td,reduceCtorEq];exact (idxF_none fun j hj=>hk.2 j (by omega)).symm
def entConFuncA:Ent:=⟨140,.cons Z18 (.cons (.fn Z15 .bool) .nil),.bool,false,none,fun _=>True,fun x=>x.1.any x.2.1⟩
theorem conConFuncA:Con Tryz.prog entConFuncA:=by
 refine con_is (C:=[entIdxFuncA]) x140 (by kernel_rfl) (by simp[conIdxFuncA]) fun x _ hf=>?_;obtain ⟨(xs:List DArc),(p:DArc→Bool),_⟩:=x;dsimp only[entConFuncA,entIdxFuncA,x140,Za,Zb,Zg];simp only[go_sem];refine eq_of_iff ?_;rw[←idxF_any];simp
def entRoad1:Ent:=⟨138,.cons Z15 (.cons (.ptr (.int .i64)) .nil),.bool,false,none,fun _=>True,fun x=>!(toArc x.1).rightB||(decide (x.2.1≤(x.1:DArc).1)||decide (x.2.1≤(x.1:DArc).2.1))⟩
def csRo1:List Ent:=[entClockRight] theorem hcsRo1 (f:FuncId):findEnt csRo1 f=findEnt [entClockRight] f:=rfl
theorem conRoad1:Con Tryz.prog entRoad1:=by
 refine con_is (C:=csRo1) x138 (by kernel_rfl) (by simp[csRo1,conClockRight]) fun x _ hf=>?_;obtain ⟨⟨(f:Int),(t:Int),(L:List Int),(H:List Int)⟩,(n:Int),_⟩:=x;dsimp only[entRoad1,x138,Z1,Z15,Za,Zb,Zc,Ze,Zg];simp only[↓hcsRo1,entClockRight,go_sem];simp only[td,reduceCtorEq];try dsimp only[Ty.den]
 exact Bool.or_assoc _ _ _
def rightR (n:Int) (A:List DArc):Bool:=decide (1≤n)&&(decide (n≤2000)&&(decide (A.length≤20000)&&A.all fun a=>(toArc a).rightB&&(decide (a.1<n)&&decide (a.2.1<n))))
def entRoad:Ent:=⟨90,.cons Z1 (.cons Z18 .nil),.bool,false,none,fun _=>True,fun x=>rightR x.1 x.2.1⟩
def csRo:List Ent:=[entConFuncA,entRoad1] theorem hcsRo (f:FuncId):findEnt csRo f=findEnt [entConFuncA,entRoad1] f:=rfl
theorem conRoad:Con Tryz.prog entRoad:=by
 refine con_is (C:=csRo) x90 (by kernel_rfl) (by simp[csRo,conConFuncA,conRoad1]) fun x _ hf=>?_;obtain ⟨(n:Int),(A:List DArc),_⟩:=x;have hA:A.length≤9223372036854775807:=hf.2.1.1;dsimp only[entRoad,x90,Z1,Za,Zb,Zc,Ze,Zg];simp only[↓hcsRo,entConFuncA,entRoad1,go_sem];simp only[td,reduceCtorEq];try dsimp only[Ty.den]
 unfold rightR;have e:(!A.any fun (x:DArc)=>!(toArc x).rightB||(decide (n≤x.1)||decide (n≤x.2.1)))=A.all fun a=>(toArc a).rightB&&(decide (a.1<n)&&decide (a.2.1<n)):=by
  rw[List.not_any_eq_all_not];congr 1;funext a;rw[Bool.eq_iff_iff];simp
 rw[e];have e2:decide ((A.length:Int)≤20000)=decide (A.length≤20000):=decide_eq_decide.2 (by omega);rw[e2,Bool.and_assoc,Bool.and_assoc]
end T
end Go.Proofs.YtcnfmabhghhdnaaGreat
end
section
namespace Go.Proofs.YtcnfmabhghhdnaaGreat
namespace T
abbrev DWorld:=Int×List DArc×List DCar×List DReq×List DPair×DShift
def allIn (most:Int) (l:List Int):Bool:=l.all fun n=>decide (0≤n∧n≤most)
def carB (m:Int) (c:DCar):Bool:=allIn m [c.2.1]&&(allIn 1048576 [c.2.2.1,c.2.2.2.1]&&(decide (c.2.2.1≤c.2.2.2.1)&&allIn 60 [c.2.2.2.2.1,c.2.2.2.2.2.1,c.2.2.2.2.2.2.1]))
def reqB (m:Int) (q:DReq):Bool:=(allIn 1048576 [q.2.2.2.1,q.2.2.2.2.1,q.2.2.2.2.2.1,q.2.2.2.2.2.2.1]&&decide (q.2.2.2.1≤q.2.2.2.2.1))&&(allIn 3999 [q.1]&&(allIn m [q.2.1,q.2.2.1]&&allIn 60 [q.2.2.2.2.2.2.2.1,q.2.2.2.2.2.2.2.2.1,q.2.2.2.2.2.2.2.2.2]))
def prB (p:DPair):Bool:=allIn 3999 [p.1,p.2.1]
def rightP (w:DWorld):Bool:=
 (rightR w.1 w.2.1&&decide (w.2.2.1.length≤600∧w.2.2.2.1.length≤30000∧w.2.2.2.2.1.length≤4000))&&(w.2.2.1.all (carB (w.1-1))&&(w.2.2.2.1.all (reqB (w.1-1))&&(w.2.2.2.2.1.all prB&&rightK w.2.2.2.2.2 [] [])))
theorem rightR_n {n:Int} {A:List DArc} (h:rightR n A=true):1≤n∧n≤2000∧A.length≤20000∧∀a∈A,(toArc a).rightB=true∧a.1<n∧a.2.1<n:=by
 unfold rightR at h;simp only[Bool.and_eq_true,decide_eq_true_eq,List.all_eq_true] at h;exact ⟨h.1,h.2.1,h.2.2.1,fun a ha=>by have:=h.2.2.2 a ha;exact ⟨this.1,this.2.1,this.2.2⟩⟩
theorem rightP_iff {w:DWorld}:rightP w=true↔rightR w.1 w.2.1=true∧(w.2.2.1.length≤600∧w.2.2.2.1.length≤30000∧w.2.2.2.2.1.length≤4000)∧(∀c∈w.2.2.1,carB (w.1-1) c=true)∧(∀q∈w.2.2.2.1,reqB (w.1-1) q=true)∧(∀p∈w.2.2.2.2.1,prB p=true)∧rightK w.2.2.2.2.2 [] []=true:=by
 unfold rightP;simp only[Bool.and_eq_true,decide_eq_true_eq,List.all_eq_true,and_assoc]
end T
end Go.Proofs.YtcnfmabhghhdnaaGreat
end
section
namespace Go.Proofs.YtcnfmabhghhdnaaGreat
open Go.RowKit Go.IntWalk
namespace T
def entRRoad:Ent:=⟨102,.cons Z1 (.cons Z18 .nil),.bool,false,none,fun _=>True,fun x=>rightR x.1 x.2.1⟩
def csRR:List Ent:=[entRefRight10] theorem hcsRR (f:FuncId):findEnt csRR f=findEnt [entRefRight10] f:=rfl
theorem conRRoad:Con Tryz.prog entRRoad:=by
 refine con_is (C:=csRR) x102 (by kernel_rfl) (by simp[csRR,conRefRight10]) fun x _ hf=>?_;obtain ⟨(n:Int),(A:List DArc),_⟩:=x;have hA:A.length≤9223372036854775807:=hf.2.1.1;dsimp only[entRRoad,x102,Za,Zb,Ze,Zg];simp only[↓hcsRR,entRefRight10,go_sem];try simp only[td,reduceCtorEq]
 try dsimp only[Ty.den]
 refine ⟨fun h=>?_,fun ⟨⟨h1,h2⟩,h3⟩=>?_⟩
 ·symm;unfold rightR;rw[Bool.eq_false_iff];intro q;simp only[Bool.and_eq_true,decide_eq_true_eq] at q;omega
 have eq0:rightR n A=A.all fun a=>(toArc a).rightB&&(decide (a.1<n)&&decide (a.2.1<n)):=by
  unfold rightR;rw[decide_eq_true h1,decide_eq_true h2,decide_eq_true (show A.length≤20000 by omega)];simp
 refine XW_for 1000 x102_0d [] Nat (fun j=>[(5,.val Z1 (j:Int))]) (fun _=>[]) (fun j=>j≤A.length∧∀i,i<j→((toArc (A.getD i (0,0,[],[]))).rightB&&(decide ((A.getD i (0,0,[],[])).1<n)&&decide ((A.getD i (0,0,[],[])).2.1<n)))=true) (fun j=>A.length-j) 0 ?_ ?_ ?_
 ·dsimp only[x102_0d];simp only[go_sem];rfl
 ·exact ⟨Nat.zero_le _,fun i hi=>by omega⟩
 ·rintro j ⟨hj,hr⟩;dsimp only[x102_0,x102_0d,Z1,Z15,Za,Zb,Zc,Ze,Zg];simp only[↓hcsRR,entRefRight10,go_sem];by_cases hjl:j<A.length
  ·have w2:IntKind.i64.wrap ((j:Int)+1)=((j+1:Nat):Int):=i64_in _ (by omega);simp only[hjl,w2,td,reduceCtorEq];have no:((toArc (A.getD j (0,0,[],[]))).rightB&&(decide ((A.getD j (0,0,[],[])).1<n)&&decide ((A.getD j (0,0,[],[])).2.1<n)))=false→false=rightR n A:=fun h=>by
    rw[eq0];symm;rw[List.all_eq_false];exact ⟨_,getD_mem (d:=((0,0,[],[]):DArc)) hjl,by rw[h];simp⟩
   refine ⟨fun h=>no (by rw[h];rfl),fun h=>⟨fun q=>no ?_,fun q=>⟨j+1,by omega,⟨by omega,fun i hi=>?_⟩,rfl⟩⟩⟩
   ·rw[h,Bool.true_and,Bool.and_eq_false_iff,decide_eq_false_iff_not,decide_eq_false_iff_not];omega
   ·by_cases c:i=j
    ·subst c;exact ⟨h,q⟩
    ·have:=hr i (by omega);simpa only[Bool.and_eq_true,decide_eq_true_eq] using this
  ·simp only[hjl,td,reduceCtorEq];rw[eq0];symm;rw[List.all_eq_true];intro a ha;obtain ⟨i,hi,rfl⟩:=List.getElem_of_mem ha;have:=hr i (by omega);rw[List.getD_eq_getElem?_getD,List.getElem?_eq_getElem hi] at this;exact this
end T
end Go.Proofs.YtcnfmabhghhdnaaGreat
end
section
namespace Go.Proofs.YtcnfmabhghhdnaaGreat
open Go.RowKit Go.IntWalk
abbrev DLab:=Int×Int
namespace T
theorem rightR_all {n:Int} {A:List DArc} (h:rightR n A=true):(1≤n∧n≤2000)∧A.length≤20000∧∀a∈A,(toArc a).rightB=true∧(0≤a.1∧a.1<n)∧0≤a.2.1∧a.2.1<n:=by
 unfold rightR at h;simp only[Bool.and_eq_true,decide_eq_true_iff,List.all_eq_true] at h;refine ⟨⟨h.1,h.2.1⟩,h.2.2.1,fun a ha=>?_⟩;obtain ⟨h1,h2,h3⟩:=h.2.2.2 a ha;have hr:(toArc a).right:=of_decide_eq_true h1;have h4:0≤(toArc a).f:=hr.1;have h5:0≤(toArc a).t:=hr.2.1;exact ⟨h1,⟨h4,h2⟩,h5,h3⟩
end T
end Go.Proofs.YtcnfmabhghhdnaaGreat
end
