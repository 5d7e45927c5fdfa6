/- Parts of the proof (put together by a program): definitions, lemmas, and the law; no condition. -/
import Derived.Test.YtjlofnjlhgbmoaaGreatR22
import Derived.Test.YtjlofnjlhgbmoaaGreatR37
import Derived.Test.YtjlofnjlhgbmoaaGreatR39
import Derived.Test.YtjlofnjlhgbmoaaGreatR6
set_option linter.unusedVariables false
set_option linter.unusedSimpArgs false
open Nat renaming reduceAdd → YA, reduceSub → YS, reduceMul → YM, reduceLT → YL, reduceLeDiff → YE, reduceEqDiff → YD, reduceBEq → YB, reduceBNe → YN
open List renaming reduceReplicate → YR
section
namespace Go.Proofs.YtjlofnjlhgbmoaaGreat
open Go.RowKit Go.IntWalk
namespace T
def entClF:Ent:=⟨38,.cons (.sl (.st (.cons (.int .i64) .bool))) .nil,(.sl (.st (.cons (.int .i64) .bool))),false,some 72,fun x=>List.length (α:=DStop) x.1≤1000000,fun x=>x.1⟩
def csClF:List Ent:=[] theorem hcsClF (f:FuncId):findEnt csClF f=findEnt [] f:=rfl
theorem conClF:Con Tryz.prog entClF:=by
 refine con_is (C:=csClF) x38 (by kernel_rfl) (by simp [csClF]) fun x hx hf=>?_
 obtain ⟨(S:List DStop),_⟩:=x
 have hS:S.length≤1000000:=hx
 dsimp only [entClF,x38,Z8,Za,Zg];simp only [↓hcsClF,go_sem,YA,YS,YM,YL,YE,YD,YB,YN,YR,reduceIte,reduceCtorEq,↓reduceIte];try simp only [td,reduceCtorEq]
 exact ⟨fun q=>q.symm,by omega⟩
def entIst:Ent:=⟨16,.cons (.sl (.st (.cons (.int .i64) .bool))) (.cons (.int .i64) (.cons (.int .i64) (.cons (.int .i64) .nil))),(.sl (.st (.cons (.int .i64) .bool))),false,none,fun x=>List.length (α:=DStop) x.1≤1000,fun x=>stopsI x.1 x.2.1 x.2.2.1 x.2.2.2.1⟩
def csIst:List Ent:=[entClF,entInsStop] theorem hcsIst (f:FuncId):findEnt csIst f=findEnt [entClF,entInsStop] f:=rfl
theorem conIst:Con Tryz.prog entIst:=by
 refine con_is (C:=csIst) x16 (by kernel_rfl) (by simp [csIst,conClF,conInsStop]) fun x hx hf=>?_
 obtain ⟨(ss:List DStop),(r:Int),(a:Int),(b:Int),_⟩:=x
 have hl:ss.length≤1000:=hx
 dsimp only [entIst,x16,Z1,Z8,Za,Zb,Zc,Ze,Zg]
 by_cases h:a < 0∨b < a∨(ss.length:Int) < b
 ·have e:stopsI ss r a b=[]:=by unfold stopsI;rw [if_pos h]
  have e2:(decide (a < 0) || decide (b < a) || decide (b > (ss.length:Int)))=true:=by
   simp only [Bool.or_eq_true,decide_eq_true_eq];omega
  by_cases h1:a < 0
  ·simp only [↓hcsIst,entClF,entInsStop,undef,e,h1,go_sem,YA,YS,YM,YL,YE,YD,YB,YN,YR,reduceIte,reduceCtorEq,↓reduceIte]
   try simp only [e,h1,td,reduceCtorEq]
  by_cases h2:b < a
  ·simp only [↓hcsIst,entClF,entInsStop,undef,e,h1,h2,go_sem,YA,YS,YM,YL,YE,YD,YB,YN,YR,reduceIte,reduceCtorEq,↓reduceIte]
   try simp only [e,h1,h2,td,reduceCtorEq]
  have h3:(ss.length:Int) < b:=by omega
  have h4:b > (ss.length:Int):=h3
  simp only [↓hcsIst,entClF,entInsStop,undef,e,h1,h2,h3,h4,go_sem,YA,YS,YM,YL,YE,YD,YB,YN,YR,reduceIte,reduceCtorEq,↓reduceIte]
  try simp only [e,h1,h2,h3,h4,td,reduceCtorEq]
 ·have h1:¬ a < 0:=by omega
  have h2:¬ b < a:=by omega
  have h3:¬ (ss.length:Int) < b:=by omega
  have h4:¬ b > (ss.length:Int):=h3
  have a0:0≤a:=by omega
  have b0:0≤b:=by omega
  have b1:b≤(ss.length:Int):=by omega
  have hi:=insF_len ss (k:=b.toNat) (by omega) (r,false)
  have a1:a≤((insF ss b.toNat [(r,false)]).length:Int):=by omega
  have l1:ss.length≤1000000:=by omega
  have l2:(insF ss b.toNat [(r,false)]).length≤1000000:=by omega
  have e:stopsI ss r a b=insF (insF ss b.toNat [(r,false)]) a.toNat [(r,true)]:=by unfold stopsI;rw [if_neg h]
  rw [e]
  simp only [↓hcsIst,entClF,entInsStop,undef,h1,h2,h3,h4,a0,b0,b1,a1,l1,l2,go_sem,YA,YS,YM,YL,YE,YD,YB,YN,YR,reduceIte,reduceCtorEq,↓reduceIte]
  try simp only [h1,h2,h3,h4,a0,b0,b1,a1,l1,l2,td,reduceCtorEq]
def entIdxFuncStp:Ent:=⟨120,.cons (.sl (.st (.cons (.int .i64) .bool))) (.cons (.fn (.st (.cons (.int .i64) .bool)) .bool) .nil),(.int .i64),false,none,fun _=>True,fun x=>idxF x.2.1 x.1⟩
theorem conIdxFuncStp:Con Tryz.prog entIdxFuncStp:=by
 refine con_is (C:=[]) x120 (by kernel_rfl) (by simp) fun x _ hf=>?_
 obtain ⟨(xs:List DStop),(p:DStop→Bool),_⟩:=x
 have hl:xs.length≤maxLen:=hf.1.1
 dsimp only [entIdxFuncStp,x120,Zb];simp only [go_sem,YA,YS,YM,YL,YE,YD,YB,YN,YR,reduceIte,reduceCtorEq,↓reduceIte]
 refine XW_for 1000 x120_0d [] Nat (fun k=>[(8,.val (.int .i64) (k:Int))]) (fun _=>[]) (fun k=>k≤xs.length∧∀ j,j < k→p (xs.getD j dStop)=false) (fun k=>xs.length - k) 0 ?_ ?_ ?_
 ·dsimp only [x120_0d];simp only [go_sem,YA,YS,YM,YL,YE,YD,YB,YN,YR,reduceIte,reduceCtorEq,↓reduceIte]
  rfl
 ·exact ⟨by omega,fun j hj=>by omega⟩
 ·intro k hk
  dsimp only [x120_0,x120_0d,Z8,Za,Zg];simp only [go_sem,YA,YS,YM,YL,YE,YD,YB,YN,YR,reduceIte,reduceCtorEq,↓reduceIte]
  dsimp only [maxLen] at hl
  by_cases hkl:k < xs.length
  ·simp only [hkl,td,reduceCtorEq]
   refine ⟨fun h=>(idxF_at hkl hk.2 h).symm,fun h=>⟨k+1,by omega,⟨by omega,fun j hj=>?_⟩,i64_in _ (by omega)⟩⟩
   rcases Nat.lt_succ_iff_lt_or_eq.1 hj with h' | rfl
   ·exact hk.2 j h'
   ·exact h
  ·simp only [hkl,td,reduceCtorEq]
   exact (idxF_none fun j hj=>hk.2 j (by omega)).symm
def entConFuncStp:Ent:=⟨65,.cons (.sl (.st (.cons (.int .i64) .bool))) (.cons (.fn (.st (.cons (.int .i64) .bool)) .bool) .nil),.bool,false,none,fun _=>True,fun x=>x.1.any x.2.1⟩
theorem conConFuncStp:Con Tryz.prog entConFuncStp:=by
 refine con_is (C:=[entIdxFuncStp]) x65 (by kernel_rfl) (by simp [conIdxFuncStp]) fun x _ hf=>?_
 obtain ⟨(xs:List DStop),(p:DStop→Bool),_⟩:=x
 dsimp only [entConFuncStp,entIdxFuncStp,x65,Za];simp only [go_sem,YA,YS,YM,YL,YE,YD,YB,YN,YR,reduceIte,reduceCtorEq,↓reduceIte]
 refine eq_of_iff ?_
 rw [← idxF_any]
 simp
def entEr1:Ent:=⟨64,.cons (.st (.cons (.int .i64) .bool)) (.cons (.ptr (.int .i64)) .nil),.bool,false,none,fun _=>True,fun x=>decide ((x.1:DStop).1=x.2.1)⟩
def csEr1:List Ent:=[] theorem hcsEr1 (f:FuncId):findEnt csEr1 f=findEnt [] f:=rfl
theorem conEr1:Con Tryz.prog entEr1:=by
 refine con_is (C:=csEr1) x64 (by kernel_rfl) (by simp [csEr1]) fun x hx hf=>?_
 obtain ⟨⟨(n:Int),(b:Bool)⟩,(m:Int),_⟩:=x
 dsimp only [entEr1,x64,Z1,Zb];simp only [↓hcsEr1,go_sem,YA,YS,YM,YL,YE,YD,YB,YN,YR,reduceIte,reduceCtorEq,↓reduceIte];try simp only [td,reduceCtorEq]
 rfl
def entErr:Ent:=⟨29,.cons (.st (.cons (.int .i64) (.cons (.sl (.st (.cons (.int .i64) (.cons (.int .i64) (.cons (.sl (.int .i64)) (.sl (.int .i64))))))) (.cons (.sl (.st (.cons (.int .i64) (.cons (.int .i64) (.cons (.int .i64) (.cons (.int .i64) (.cons (.int .i64) (.cons (.int .i64) (.cons (.int .i64) (.cons (.int .i64) (.int .i64))))))))))) (.cons (.sl (.st (.cons (.int .i64) (.cons (.int .i64) (.cons (.int .i64) (.cons (.int .i64) (.cons (.int .i64) (.cons (.int .i64) (.cons (.int .i64) (.cons (.int .i64) (.cons (.int .i64) (.int .i64)))))))))))) (.cons (.sl (.st (.cons (.int .i64) (.cons (.int .i64) .bool)))) (.st (.cons (.int .i64) (.cons (.int .i64) (.int .i64)))))))))) (.cons (.st (.cons (.int .i64) (.cons (.sl (.st (.cons (.int .i64) .bool))) (.cons (.sl (.st (.cons (.int .i64) (.int .i64)))) (.sl (.int .i64)))))) (.cons (.int .i64) .nil)),(.int .i64),false,none,fun x=>List.length (α:=DStop) (x.2.1:DPlan).2.1≤22,fun x=>errI x.1 x.2.1 x.2.2.1⟩
def csErr:List Ent:=[entPlR,entCkP,entConFuncStp,entEr1] theorem hcsErr (f:FuncId):findEnt csErr f=findEnt [entPlR,entCkP,entConFuncStp,entEr1] f:=rfl
theorem conErr:Con Tryz.prog entErr:=by
 refine con_is (C:=csErr) x29 (by kernel_rfl) (by simp [csErr,conPlR,conCkP,conConFuncStp,conEr1]) fun x hx hf=>?_
 obtain ⟨⟨(N:Int),(A:List DArc),(C:List DCar),(Q:List DReq),(R:List DPair),(S1:Int),(S2:Int),(S3:Int)⟩,⟨(c:Int),(ss:List DStop),(L:List DLeg),(G:List Int)⟩,(r:Int),_⟩:=x
 have hl:ss.length≤22:=hx
 have hl':ss.length≤24:=by omega
 dsimp only [entErr,x29,Z1,Z19,Z20,Z23,Z7,Za,Zb,Zc,Ze,Zg]
 have hE:errI (N,A,C,Q,R,S1,S2,S3) (c,ss,L,G) r=if rightP (N,A,C,Q,R,S1,S2,S3)=false∨checkP (N,A,C,Q,R,S1,S2,S3) (c,ss,L,G)≠0∨r < 0∨(Q.length:Int)≤r∨(ss.any fun s=>decide (s.1=r))=true then 1 else 0:=rfl
 have h78:¬ (ss.length:Int) > 78:=by omega
 cases h1:rightP (N,A,C,Q,R,S1,S2,S3)
 ·rw [h1,if_pos (.inl rfl)] at hE
  simp only [↓hcsErr,entPlR,entCkP,entConFuncStp,entEr1,undef,hE,h1,hl',h78,go_sem,YA,YS,YM,YL,YE,YD,YB,YN,YR,reduceIte,reduceCtorEq,↓reduceIte]
  try simp only [hE,h1,hl',h78,td,reduceCtorEq]
 by_cases h2:checkP (N,A,C,Q,R,S1,S2,S3) (c,ss,L,G)=0
 ·by_cases h3:r < 0
  ·rw [if_pos (.inr (.inr (.inl h3)))] at hE
   simp only [↓hcsErr,entPlR,entCkP,entConFuncStp,entEr1,undef,hE,h1,h2,h3,hl',h78,go_sem,YA,YS,YM,YL,YE,YD,YB,YN,YR,reduceIte,reduceCtorEq,↓reduceIte]
   try simp only [hE,h1,h2,h3,hl',h78,td,reduceCtorEq]
  by_cases h4:(Q.length:Int)≤r
  ·rw [if_pos (.inr (.inr (.inr (.inl h4))))] at hE
   have h4':r ≥ (Q.length:Int):=h4
   simp only [↓hcsErr,entPlR,entCkP,entConFuncStp,entEr1,undef,hE,h1,h2,h3,h4,h4',hl',h78,go_sem,YA,YS,YM,YL,YE,YD,YB,YN,YR,reduceIte,reduceCtorEq,↓reduceIte]
   try simp only [hE,h1,h2,h3,h4,h4',hl',h78,td,reduceCtorEq]
  have h4':¬ r ≥ (Q.length:Int):=h4
  cases h5:(ss.any fun s=>decide (s.1=r))
  ·rw [if_neg (by rw [h1,h5];rintro (q | q | q | q | q) <;> first | exact h3 q | exact h4 q | exact q h2 | cases q)] at hE
   simp only [↓hcsErr,entPlR,entCkP,entConFuncStp,entEr1,undef,hE,h1,h2,h3,h4,h4',h5,hl',h78,go_sem,YA,YS,YM,YL,YE,YD,YB,YN,YR,reduceIte,reduceCtorEq,↓reduceIte]
   try simp only [hE,h1,h2,h3,h4,h4',h5,hl',h78,td,reduceCtorEq]
  ·rw [if_pos (.inr (.inr (.inr (.inr h5))))] at hE
   simp only [↓hcsErr,entPlR,entCkP,entConFuncStp,entEr1,undef,hE,h1,h2,h3,h4,h4',h5,hl',h78,go_sem,YA,YS,YM,YL,YE,YD,YB,YN,YR,reduceIte,reduceCtorEq,↓reduceIte]
   try simp only [hE,h1,h2,h3,h4,h4',h5,hl',h78,td,reduceCtorEq]
 ·rw [if_pos (.inr (.inl h2))] at hE
  simp only [↓hcsErr,entPlR,entCkP,entConFuncStp,entEr1,undef,hE,h1,h2,hl',h78,go_sem,YA,YS,YM,YL,YE,YD,YB,YN,YR,reduceIte,reduceCtorEq,↓reduceIte]
  try simp only [hE,h1,h2,hl',h78,td,reduceCtorEq]
end T
end Go.Proofs.YtjlofnjlhgbmoaaGreat
end
