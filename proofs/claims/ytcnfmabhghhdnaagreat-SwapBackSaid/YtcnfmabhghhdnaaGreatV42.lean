/- Parts of the proof (put together by a program): definitions, lemmas, and the law; no condition. -/
import Derived.Test.YtcnfmabhghhdnaaGreatV10
import Derived.Test.YtcnfmabhghhdnaaGreatV14
import Derived.Test.YtcnfmabhghhdnaaGreatV19
import Derived.Test.YtcnfmabhghhdnaaGreatV2
import Derived.Test.YtcnfmabhghhdnaaGreatV21
import Derived.Test.YtcnfmabhghhdnaaGreatV26
import Derived.Test.YtcnfmabhghhdnaaGreatV33
import Derived.Test.YtcnfmabhghhdnaaGreatV41
import Derived.Test.YtcnfmabhghhdnaaGreatV5
import Derived.Test.YtcnfmabhghhdnaaGreatV6
import Derived.Test.YtcnfmabhghhdnaaGreatV7
import Derived.Test.YtcnfmabhghhdnaaGreatV8
set_option linter.unusedVariables false
set_option linter.unusedSimpArgs false
open Nat renaming reduceAdd → YA, reduceSub → YS, reduceMul → YM, reduceLT → YL, reduceLeDiff → YE, reduceEqDiff → YD, reduceBEq → YB, reduceBNe → YN
open List renaming reduceReplicate → YR
section
namespace Go.Proofs.YtcnfmabhghhdnaaGreat
namespace T
def foS (w:DWorld) (ps:List DPlan) (a:DAcc) (l:List DMove):DAcc:=l.foldl (stepG (makeF w) (endF w) ps) a
theorem foS_app (w:DWorld) (ps:List DPlan) (a:DAcc) (l m:List DMove):foS w ps a (l ++ m)=foS w ps (foS w ps a l) m:=List.foldl_append
theorem flat_next {β:Type} (g:Nat→List β) (k:Nat):(List.range (k+1)).flatMap g=(List.range k).flatMap g ++ g k:=by
 rw [List.range_succ,List.flatMap_append]
 simp
theorem foS_0 (w:DWorld) (ps:List DPlan):∃ B:Nat→DAcc,B 0=(none,totalF w ps)∧(∀ r:Nat,B (r+1)=if fromF ps r < 0 then B r else foS w ps (B r) (tosF ps r (fromF ps r)))∧B w.2.2.2.1.length=scanF w ps:=by
 refine ⟨fun r=>foS w ps (none,totalF w ps) (movesF r ps),rfl,fun r=>?_,rfl⟩
 have e:movesF (r+1) ps=movesF r ps ++ if fromF ps r < 0 then [] else tosF ps r (fromF ps r):=by unfold movesF;rw [flat_next]
 dsimp only
 rw [e,foS_app]
 by_cases c:fromF ps r < 0
 ·rw [if_pos c,if_pos c];rfl
 ·rw [if_neg c,if_neg c]
theorem foS_1 (w:DWorld) (ps:List DPlan) (r f:Int) (a:DAcc):∃ B:Nat→DAcc,B 0=a∧(∀ t:Nat,B (t+1)=foS w ps (B t) (picksF r f t (outS (ps.getD t dPlan).2.1 r).length))∧B ps.length=foS w ps a (tosF ps r f):=by
 refine ⟨fun t=>foS w ps a ((List.range t).flatMap fun t:Nat=>picksF r f t (outS (ps.getD t dPlan).2.1 r).length),rfl,fun t=>?_,rfl⟩
 dsimp only
 rw [flat_next,foS_app]
theorem foS_2 (w:DWorld) (ps:List DPlan) (r f t:Int) (n:Nat) (a:DAcc):∃ B:Nat→DAcc,B 0=a∧(∀ p:Nat,B (p+1)=foS w ps (B p) (dropsF r f t n p))∧B (n+1)=foS w ps a (picksF r f t n):=by
 refine ⟨fun p=>foS w ps a ((List.range p).flatMap (dropsF r f t n)),rfl,fun p=>?_,rfl⟩
 dsimp only
 rw [flat_next,foS_app]
theorem foS_3 (w:DWorld) (ps:List DPlan) (r f t:Int) (n p:Nat) (a:DAcc):∃ B:Nat→DAcc,B 0=a∧(∀ k:Nat,B (k+1)=if (movedF w ps (r,f,t,(p:Int),((p+k:Nat):Int))).2=0∧totalF w (movedF w ps (r,f,t,(p:Int),((p+k:Nat):Int))).1 < (B k).2 then (some ((r,f,t,(p:Int),((p+k:Nat):Int)),(movedF w ps (r,f,t,(p:Int),((p+k:Nat):Int))).1),totalF w (movedF w ps (r,f,t,(p:Int),((p+k:Nat):Int))).1) else B k)∧B (n+1 - p)=foS w ps a (dropsF r f t n p):=by
 refine ⟨fun k=>foS w ps a ((List.range k).map fun d=>(r,f,t,(p:Int),((p+d:Nat):Int))),rfl,fun k=>?_,rfl⟩
 dsimp only
 rw [List.range_succ,List.map_append,foS_app]
 rfl
theorem RightPs.lens {w:DWorld} {ps:List DPlan} (h:RightPs w ps) (hq:w.2.2.2.1.length≤10):∀ p ∈ ps,p.2.1.length≤20∧p.2.2.1.length≤20∧p.2.2.2.length≤21:=by
 intro p hp
 obtain ⟨j,hj,rfl⟩:=List.getElem_of_mem hp
 have e:ps.getD j dPlan=ps[j]:=by simp [List.getD,hj]
 have h1:=RightS.len2 (h.stops hj)
 obtain ⟨⟨_,h2⟩,_⟩:=h.2.2 j hj
 rw [e] at h1 h2
 have h3:=(good_legs h2).1
 have h4:=(fitsG_iff.1 (good_has h2).2.2.2.1).2.1
 dsimp only [winsF] at h4
 rw [List.length_map,List.length_range] at h4
 omega
end T
end Go.Proofs.YtcnfmabhghhdnaaGreat
end
section
namespace Go.Proofs.YtcnfmabhghhdnaaGreat
open Go.RowKit Go.IntWalk
namespace T
def entSmP:Ent:=⟨21,.cons (.st (.cons (.int .i64) (.cons (.sl (.st (.cons (.int .i64) .bool))) (.cons (.sl (.st (.cons (.int .i64) (.int .i64)))) (.sl (.int .i64)))))) (.cons (.st (.cons (.int .i64) (.cons (.sl (.st (.cons (.int .i64) .bool))) (.cons (.sl (.st (.cons (.int .i64) (.int .i64)))) (.sl (.int .i64)))))) .nil),.bool,false,none,fun _=>True,fun x=>decide ((x.1:DPlan)=x.2.1)⟩
def csSmP:List Ent:=[entSmLg,entSmSt,entInt16] theorem hcsSmP (f:FuncId):findEnt csSmP f=findEnt [entSmLg,entSmSt,entInt16] f:=rfl
theorem conSmP:Con Tryz.prog entSmP:=by
 refine con_is (C:=csSmP) x21 (by kernel_rfl) (by simp [csSmP,conSmLg,conSmSt,conInt16]) fun x hx hf=>?_
 obtain ⟨⟨(c:Int),(ss:List DStop),(Lg:List DLeg),(Lv:List Int)⟩,⟨(c':Int),(ss':List DStop),(Lg':List DLeg),(Lv':List Int)⟩,_⟩:=x
 dsimp only [entSmP,x21,Z1,Z10,Z12,Z3,Za,Zb,Zc,Ze];simp only [↓hcsSmP,entSmLg,entSmSt,entInt16,undef,go_sem,YA,YS,YM,YL,YE,YD,YB,YN,YR,reduceIte,reduceCtorEq,↓reduceIte]
 try simp only [td,reduceCtorEq]
 rw [Bool.eq_iff_iff]
 simp only [Bool.and_eq_true,beq_iff_eq,decide_eq_true_eq,Prod.mk.injEq,and_assoc]
end T
end Go.Proofs.YtcnfmabhghhdnaaGreat
end
