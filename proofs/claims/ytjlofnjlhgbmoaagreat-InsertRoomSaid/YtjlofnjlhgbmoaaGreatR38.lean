/- Parts of the proof (put together by a program): definitions, lemmas, and the law; no condition. -/
import Derived.Test.YtjlofnjlhgbmoaaGreatR11
import Derived.Test.YtjlofnjlhgbmoaaGreatR13
import Derived.Test.YtjlofnjlhgbmoaaGreatR16
import Derived.Test.YtjlofnjlhgbmoaaGreatR2
import Derived.Test.YtjlofnjlhgbmoaaGreatR21
import Derived.Test.YtjlofnjlhgbmoaaGreatR23
import Derived.Test.YtjlofnjlhgbmoaaGreatR28
import Derived.Test.YtjlofnjlhgbmoaaGreatR36
import Derived.Test.YtjlofnjlhgbmoaaGreatR5
import Derived.Test.YtjlofnjlhgbmoaaGreatR6
import Derived.Test.YtjlofnjlhgbmoaaGreatR7
import Derived.Test.YtjlofnjlhgbmoaaGreatR8
set_option linter.unusedVariables false
set_option linter.unusedSimpArgs false
open Nat renaming reduceAdd → YA, reduceSub → YS, reduceMul → YM, reduceLT → YL, reduceLeDiff → YE, reduceEqDiff → YD, reduceBEq → YB, reduceBNe → YN
open List renaming reduceReplicate → YR
section
namespace Go.Proofs.YtjlofnjlhgbmoaaGreat
open Go.RowKit Go.IntWalk
namespace T
def entFwP:Ent:=⟨10,.cons (.st (.cons (.int .i64) (.cons (.sl (.st (.cons (.int .i64) .bool))) (.cons (.sl (.st (.cons (.int .i64) (.int .i64)))) (.sl (.int .i64)))))) .nil,.bool,false,none,fun _=>True,fun x=>decide ((x.1:DPlan).2.1.length≤10∧(x.1:DPlan).2.2.1.length≤12∧(x.1:DPlan).2.2.2.length≤12)⟩
def csFwP:List Ent:=[] theorem hcsFwP (f:FuncId):findEnt csFwP f=findEnt [] f:=rfl
theorem conFwP:Con Tryz.prog entFwP:=by
 refine con_is (C:=csFwP) x10 (by kernel_rfl) (by simp [csFwP]) fun x hx hf=>?_
 obtain ⟨⟨(c:Int),(ss:List DStop),(Lg:List DLeg),(Lv:List Int)⟩,_⟩:=x
 dsimp only [entFwP,x10,Z11,Z19,Z3,Za,Zb,Zc,Ze];simp only [↓hcsFwP,undef,go_sem,YA,YS,YM,YL,YE,YD,YB,YN,YR,reduceIte,reduceCtorEq,↓reduceIte]
 try simp only [td,reduceCtorEq]
 rw [Bool.eq_iff_iff]
 simp only [Bool.and_eq_true,decide_eq_true_eq]
 omega
end T
end Go.Proofs.YtjlofnjlhgbmoaaGreat
end
