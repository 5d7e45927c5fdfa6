/- Parts of the proof of the law; no condition. -/
import Derived.Test.YtpocfbfmjippnaaGreatG5
set_option linter.all false
section
namespace Go.Proofs.YtpocfbfmjippnaaGreat
open Go.RowKit Go.IntWalk
namespace T
def entIdxFuncA:Ent:=⟨198,.cons Z13 (.cons (.fn Z11 .bool) .nil),(.int .i64),false,none,fun _=>True,fun x=>idxF x.2.1 x.1⟩
theorem conIdxFuncA:Con Tryz.prog entIdxFuncA:=by
 refine con_is (C:=[]) x198 (by kernel_rfl) (by simp) fun x _ hf=>?_;obtain ⟨(xs:List DArc),(p:DArc→Bool),_⟩:=x;have hl:xs.length≤maxLen:=hf.1.1;dsimp only[entIdxFuncA,x198];simp only[go_sem];refine XW_for 1000 x198_0d [] Nat (fun k=>[(8,.val Z1 (k:Int))]) (fun _=>[]) (fun k=>k≤xs.length∧∀j,j<k→p (xs.getD j (0,0,[],[]))=false) (fun k=>xs.length-k) 0 ?_ ?_ ?_
 ·dsimp only[x198_0d];simp only[go_sem];rfl
 ·exact ⟨by omega,fun j hj=>by omega⟩
 ·intro k hk;dsimp only[x198_0,x198_0d];simp only[go_sem];dsimp only[maxLen] at hl;by_cases hkl:k<xs.length
  ·simp only[hkl,td,reduceCtorEq];refine ⟨fun h=>(idxF_at hkl hk.2 h).symm,fun h=>⟨k+1,by omega,⟨by omega,fun j hj=>?_⟩,i64_in _ (by omega)⟩⟩;rcases Nat.lt_succ_iff_lt_or_eq.1 hj with h'|rfl
   ·exact hk.2 j h'
   ·exact h
  ·simp only[hkl,td,reduceCtorEq];exact (idxF_none fun j hj=>hk.2 j (by omega)).symm
def entConFuncA:Ent:=⟨155,.cons Z13 (.cons (.fn Z11 .bool) .nil),.bool,false,none,fun _=>True,fun x=>x.1.any x.2.1⟩
theorem conConFuncA:Con Tryz.prog entConFuncA:=by
 refine con_is (C:=[entIdxFuncA]) x155 (by kernel_rfl) (by simp[conIdxFuncA]) fun x _ hf=>?_;obtain ⟨(xs:List DArc),(p:DArc→Bool),_⟩:=x;dsimp only[entConFuncA,entIdxFuncA,x155];simp only[go_sem];refine eq_of_iff ?_;rw[←idxF_any];simp
def entRoad1:Ent:=⟨153,.cons Z11 (.cons (.ptr (.int .i64)) .nil),.bool,false,none,fun _=>True,fun x=>!(toArc x.1).rightB||(decide (x.2.1≤(x.1:DArc).1)||decide (x.2.1≤(x.1:DArc).2.1))⟩
def csRo1:List Ent:=[entClockRight] theorem hcsRo1 (f:FuncId):findEnt csRo1 f=findEnt [entClockRight] f:=rfl
theorem conRoad1:Con Tryz.prog entRoad1:=by
 refine con_is (C:=csRo1) x153 (by kernel_rfl) (by simp[csRo1,conClockRight]) fun x _ hf=>?_;obtain ⟨⟨(f:Int),(t:Int),(L:List Int),(H:List Int)⟩,(n:Int),_⟩:=x;dsimp only[entRoad1,x153];simp only[↓hcsRo1,entClockRight,go_sem];simp only[td,reduceCtorEq];try dsimp only[Ty.den]
 exact Bool.or_assoc _ _ _
def rightR (n:Int) (A:List DArc):Bool:=decide (1≤n)&&(decide (n≤2000)&&(decide (A.length≤20000)&&A.all fun a=>(toArc a).rightB&&(decide (a.1<n)&&decide (a.2.1<n))))
def entRoad:Ent:=⟨102,.cons Z1 (.cons Z13 .nil),.bool,false,none,fun _=>True,fun x=>rightR x.1 x.2.1⟩
def csRo:List Ent:=[entConFuncA,entRoad1] theorem hcsRo (f:FuncId):findEnt csRo f=findEnt [entConFuncA,entRoad1] f:=rfl
theorem conRoad:Con Tryz.prog entRoad:=by
 refine con_is (C:=csRo) x102 (by kernel_rfl) (by simp[csRo,conConFuncA,conRoad1]) fun x _ hf=>?_;obtain ⟨(n:Int),(A:List DArc),_⟩:=x;have hA:A.length≤9223372036854775807:=hf.2.1.1;dsimp only[entRoad,x102];simp only[↓hcsRo,entConFuncA,entRoad1,go_sem];simp only[td,reduceCtorEq];try dsimp only[Ty.den]
 unfold rightR;have e:(!A.any fun (x:DArc)=>!(toArc x).rightB||(decide (n≤x.1)||decide (n≤x.2.1)))=A.all fun a=>(toArc a).rightB&&(decide (a.1<n)&&decide (a.2.1<n)):=by
  rw[List.not_any_eq_all_not];congr 1;funext a;rw[Bool.eq_iff_iff];simp
 rw[e];have e2:decide ((A.length:Int)≤20000)=decide (A.length≤20000):=decide_eq_decide.2 (by omega);rw[e2,Bool.and_assoc,Bool.and_assoc]
end T
end Go.Proofs.YtpocfbfmjippnaaGreat
end
section
namespace Go.Proofs.YtpocfbfmjippnaaGreat
open Go.RowKit Go.IntWalk
abbrev DLab:=Int×Int
namespace T
theorem rightR_all {n:Int} {A:List DArc} (h:rightR n A=true):(1≤n∧n≤2000)∧A.length≤20000∧∀a∈A,(toArc a).rightB=true∧(0≤a.1∧a.1<n)∧0≤a.2.1∧a.2.1<n:=by
 unfold rightR at h;simp only[Bool.and_eq_true,decide_eq_true_iff,List.all_eq_true] at h;refine ⟨⟨h.1,h.2.1⟩,h.2.2.1,fun a ha=>?_⟩;obtain ⟨h1,h2,h3⟩:=h.2.2.2 a ha;have hr:(toArc a).right:=of_decide_eq_true h1;have h4:0≤(toArc a).f:=hr.1;have h5:0≤(toArc a).t:=hr.2.1;exact ⟨h1,⟨h4,h2⟩,h5,h3⟩
end T
end Go.Proofs.YtpocfbfmjippnaaGreat
end
section
namespace Go.Proofs.YtpocfbfmjippnaaGreat
open Go.RowKit Go.IntWalk
namespace T
def entInt16:Ent:=⟨60,.cons Z5 (.cons Z5 .nil),.bool,false,none,fun _=>True,fun x=>decide ((x.1:List Int)=x.2.1)⟩
def csI16:List Ent:=[] theorem hcsI16 (f:FuncId):findEnt csI16 f=findEnt [] f:=rfl
theorem conInt16:Con Tryz.prog entInt16:=by
 refine con_is (C:=csI16) x60 (by kernel_rfl) (by simp[csI16]) fun x hx hf=>?_;obtain ⟨(a:List Int),(b:List Int),_⟩:=x;have hal:a.length≤9223372036854775807:=hf.1.1;dsimp only[entInt16,x60];simp only[↓hcsI16,go_sem];try simp only[td,reduceCtorEq]
 refine ⟨fun h=>(decide_eq_false fun e=>h (by rw[e])).symm,fun h=>?_⟩;refine XW_for 1000 x60_0d [] Nat (fun k=>[(5,.val Z1 (k:Int))]) (fun _=>[]) (fun k=>k≤a.length∧∀j,j<k→a.getD j 0=b.getD j 0) (fun k=>a.length-k) 0 ?_ ?_ ?_
 ·dsimp only[x60_0d];simp only[go_sem];rfl
 ·exact ⟨by omega,fun j hj=>by omega⟩
 ·intro k hk;dsimp only[x60_0,x60_0d];simp only[go_sem];by_cases hkl:k<a.length
  ·simp only[hkl,←h,td,reduceCtorEq];refine ⟨fun e=>(decide_eq_false fun q=>e (by rw[q])).symm,fun e=>⟨k+1,by omega,⟨by omega,fun j hj=>?_⟩,i64_in _ (by omega)⟩⟩;rcases Nat.lt_succ_iff_lt_or_eq.1 hj with h'|rfl
   ·exact hk.2 j h'
   ·exact e
  ·simp only[hkl,td,reduceCtorEq];refine (decide_eq_true (List.ext_getElem h fun j h1 h2=>?_)).symm;have:=hk.2 j (by omega);simpa [List.getD,h1,h2] using this
end T
end Go.Proofs.YtpocfbfmjippnaaGreat
end
