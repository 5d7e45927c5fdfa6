/- Parts of the proof (put together by a program): definitions, lemmas, and the law; no condition. -/
import Derived.Test.YtjlofnjlhgbmoaaGreatR11
import Derived.Test.YtjlofnjlhgbmoaaGreatR13
import Derived.Test.YtjlofnjlhgbmoaaGreatR16
import Derived.Test.YtjlofnjlhgbmoaaGreatR2
import Derived.Test.YtjlofnjlhgbmoaaGreatR21
import Derived.Test.YtjlofnjlhgbmoaaGreatR23
import Derived.Test.YtjlofnjlhgbmoaaGreatR28
import Derived.Test.YtjlofnjlhgbmoaaGreatR36
import Derived.Test.YtjlofnjlhgbmoaaGreatR38
import Derived.Test.YtjlofnjlhgbmoaaGreatR40
import Derived.Test.YtjlofnjlhgbmoaaGreatR45
import Derived.Test.YtjlofnjlhgbmoaaGreatR5
import Derived.Test.YtjlofnjlhgbmoaaGreatR6
import Derived.Test.YtjlofnjlhgbmoaaGreatR7
import Derived.Test.YtjlofnjlhgbmoaaGreatR8
set_option linter.unusedVariables false
set_option linter.unusedSimpArgs false
open Nat renaming reduceAdd → YA, reduceSub → YS, reduceMul → YM, reduceLT → YL, reduceLeDiff → YE, reduceEqDiff → YD, reduceBEq → YB, reduceBNe → YN
open List renaming reduceReplicate → YR
section
namespace Go.Proofs.YtjlofnjlhgbmoaaGreat
open Go.RowKit Go.IntWalk
namespace T
def few21 (w:DWorld) (p:DPlan):Bool:=few20 w p.2.1 && decide ((p.2.1.length≤10∧p.2.2.1.length≤12∧p.2.2.2.length≤12)∧p.2.1.length≤6)
def entFew21:Ent:=⟨9,.cons (.st (.cons (.int .i64) (.cons (.sl (.st (.cons (.int .i64) (.cons (.int .i64) (.cons (.sl (.int .i64)) (.sl (.int .i64))))))) (.cons (.sl (.st (.cons (.int .i64) (.cons (.int .i64) (.cons (.int .i64) (.cons (.int .i64) (.cons (.int .i64) (.cons (.int .i64) (.cons (.int .i64) (.cons (.int .i64) (.int .i64))))))))))) (.cons (.sl (.st (.cons (.int .i64) (.cons (.int .i64) (.cons (.int .i64) (.cons (.int .i64) (.cons (.int .i64) (.cons (.int .i64) (.cons (.int .i64) (.cons (.int .i64) (.cons (.int .i64) (.int .i64)))))))))))) (.cons (.sl (.st (.cons (.int .i64) (.cons (.int .i64) .bool)))) (.st (.cons (.int .i64) (.cons (.int .i64) (.int .i64)))))))))) (.cons (.st (.cons (.int .i64) (.cons (.sl (.st (.cons (.int .i64) .bool))) (.cons (.sl (.st (.cons (.int .i64) (.int .i64)))) (.sl (.int .i64)))))) .nil),.bool,false,none,fun _=>True,fun x=>few21 x.1 x.2.1⟩
def csFew21:List Ent:=[entFew20,entFwP] theorem hcsFew21 (f:FuncId):findEnt csFew21 f=findEnt [entFew20,entFwP] f:=rfl
theorem conFew21:Con Tryz.prog entFew21:=by
 refine con_is (C:=csFew21) x9 (by kernel_rfl) (by simp [csFew21,conFew20,conFwP]) fun x hx hf=>?_
 obtain ⟨⟨(N:Int),(A:List DArc),(C:List DCar),(Q:List DReq),(R:List DPair),(S1:Int),(S2:Int),(S3:Int)⟩,⟨(c:Int),(ss:List DStop),(L:List DLeg),(G:List Int)⟩,_⟩:=x
 dsimp only [entFew21,x9,Z19,Z20,Z23,Za,Zb,Zc,Ze];simp only [↓hcsFew21,entFew20,entFwP,undef,go_sem,YA,YS,YM,YL,YE,YD,YB,YN,YR,reduceIte,reduceCtorEq,↓reduceIte]
 try simp only [td,reduceCtorEq]
 unfold few21
 rw [Bool.eq_iff_iff]
 simp [and_assoc]
 try omega
end T
end Go.Proofs.YtjlofnjlhgbmoaaGreat
end
