/- Parts of the proof (put together by a program): definitions, lemmas, and the law; no condition. -/
import Derived.Test.YtcnfmabhghhdnaaGreatV45
import Derived.Test.YtcnfmabhghhdnaaGreatV48
import Derived.Test.YtcnfmabhghhdnaaGreatV50
import Derived.Test.YtcnfmabhghhdnaaGreatV51
import Derived.Test.YtcnfmabhghhdnaaGreatV6
set_option linter.unusedVariables false
set_option linter.unusedSimpArgs false
open Nat renaming reduceAdd → YA, reduceSub → YS, reduceMul → YM, reduceLT → YL, reduceLeDiff → YE, reduceEqDiff → YD, reduceBEq → YB, reduceBNe → YN
open List renaming reduceReplicate → YR
section
namespace Go.Proofs.YtcnfmabhghhdnaaGreat
open Go.RowKit Go.IntWalk
namespace T
def entBack23:Ent:=⟨6,.cons (.st (.cons (.int .i64) (.cons (.sl (.st (.cons (.int .i64) (.cons (.int .i64) (.cons (.sl (.int .i64)) (.sl (.int .i64))))))) (.cons (.sl (.st (.cons (.int .i64) (.cons (.int .i64) (.cons (.int .i64) (.cons (.int .i64) (.cons (.int .i64) (.cons (.int .i64) (.cons (.int .i64) (.cons (.int .i64) (.int .i64))))))))))) (.cons (.sl (.st (.cons (.int .i64) (.cons (.int .i64) (.cons (.int .i64) (.cons (.int .i64) (.cons (.int .i64) (.cons (.int .i64) (.cons (.int .i64) (.cons (.int .i64) (.cons (.int .i64) (.int .i64)))))))))))) (.cons (.sl (.st (.cons (.int .i64) (.cons (.int .i64) .bool)))) (.st (.cons (.int .i64) (.cons (.int .i64) (.int .i64)))))))))) (.cons (.sl (.st (.cons (.int .i64) (.cons (.sl (.st (.cons (.int .i64) .bool))) (.cons (.sl (.st (.cons (.int .i64) (.int .i64)))) (.sl (.int .i64))))))) (.cons (.st (.cons (.int .i64) (.cons (.int .i64) (.cons (.int .i64) (.cons (.int .i64) (.int .i64)))))) .nil)),.bool,false,none,fun _=>True,fun _=>true⟩
def csBack23:List Ent:=[entSmall23,entFw23,entWld,entMk,entSmP,entSTy,entAt23,entSm23,entWot23,entSmSt] theorem hcsBack23 (f:FuncId):findEnt csBack23 f=findEnt [entSmall23,entFw23,entWld,entMk,entSmP,entSTy,entAt23,entSm23,entWot23,entSmSt] f:=rfl
set_option maxHeartbeats 8000000 in
theorem conBack23:Con Tryz.prog entBack23:=by
 refine con_is (C:=csBack23) x6 (by kernel_rfl) (by simp [csBack23,conSmall23,conFw23,conWld,conMk,conSmP,conSTy,conAt23,conSm23,conWot23,conSmSt]) fun x _ hf=>?_
 obtain ⟨⟨(N:Int),(A:List DArc),(C:List DCar),(Q:List DReq),(P:List DPair),(S1:Int),(S2:Int),(S3:Int)⟩,(ps:List DPlan),⟨(r:Int),(f:Int),(t:Int),(p:Int),(d:Int)⟩,_⟩:=x
 dsimp only [entBack23,x6,Z1,Z12,Z13,Z21,Z24,Za,Zb,Zc,Zd,Ze,Zf,Zg]
 cases h0:few23 (N,A,C,Q,P,S1,S2,S3) ps
 ·simp only [↓hcsBack23,entSmall23,entFw23,entWld,entMk,entSmP,entSTy,entAt23,entSm23,entWot23,entSmSt,undef,h0,go_sem,YA,YS,YM,YL,YE,YD,YB,YN,YR,reduceIte,reduceCtorEq,↓reduceIte]
  try simp only [h0,td,reduceCtorEq]
 obtain ⟨f0,f1,f2⟩:=few23_iff.1 h0
 dsimp only at f0
 have hq:Q.length≤10:=by omega
 have hl:ps.length≤1000:=by omega
 have h1:∀ p ∈ ps,p.2.1.length≤24∧p.2.2.1.length≤1000000∧p.2.2.2.length≤1000000:=fun p hp=>by have:=f2 p hp;omega
 have h2:∀ p ∈ ps,p.2.1.length≤24:=fun p hp=>(h1 p hp).1
 simp only [↓hcsBack23,entSmall23,entFw23,entWld,entMk,entSmP,entSTy,entAt23,entSm23,entWot23,entSmSt,undef,h0,go_sem,YA,YS,YM,YL,YE,YD,YB,YN,YR,reduceIte,reduceCtorEq,↓reduceIte]
 try simp only [h0,td,reduceCtorEq]
 refine XW_for 1000 x6_0d [0,1,11] Nat (fun j=>[(9,.val (.int .i64) (j:Int))]) (fun _=>[]) (fun j=>j≤ps.length∧∀ i,i < j→makeF (N,A,C,Q,P,S1,S2,S3) i (ps.getD i dPlan).2.1=(ps.getD i dPlan,0)) (fun j=>ps.length - j) 0 ?_ ?_ ?_
 ·dsimp only [x6_0d]
  simp only [go_sem,YA,YS,YM,YL,YE,YD,YB,YN,YR,reduceIte,reduceCtorEq,↓reduceIte]
  try rfl
 ·exact ⟨Nat.zero_le _,fun i hi=>absurd hi (Nat.not_lt_zero _)⟩
 rintro j ⟨hj,hn⟩
 dsimp only [x6_0,x6_0d,Z12,Z13,Z24,Za,Zb,Zc,Zf,Zh]
 by_cases hj':j < ps.length
 ·have w2:IntKind.i64.wrap ((j:Int)+1)=((j+1:Nat):Int):=i64_in _ (by omega)
  have hb:=h2 (ps.getD j dPlan) (by simp [List.getD,hj'])
  have hnx:makeF (N,A,C,Q,P,S1,S2,S3) j (ps.getD j dPlan).2.1=(ps.getD j dPlan,0)→∀ i,i < j+1→makeF (N,A,C,Q,P,S1,S2,S3) i (ps.getD i dPlan).2.1=(ps.getD i dPlan,0):=fun h i hi=>by
   rcases Nat.lt_or_ge i j with q | q
   ·exact hn i q
   ·rw [show i=j by omega];exact h
  dsimp only [dPlan] at hb hnx
  generalize hP:ps.getD j (0,[],[],[])=pj at hb hnx
  obtain ⟨X,hX⟩:∃ X,makeF (N,A,C,Q,P,S1,S2,S3) j pj.2.1=X:=⟨_,rfl⟩
  obtain ⟨x,e⟩:=X
  rw [hX] at hnx
  by_cases he:e=0
  ·subst he
   by_cases hx:x=pj
   ·subst hx
    simp only [↓hcsBack23,entSmall23,entFw23,entWld,entMk,entSmP,entSTy,entAt23,entSm23,entWot23,entSmSt,undef,hj',w2,hP,hb,hX,go_sem,YA,YS,YM,YL,YE,YD,YB,YN,YR,reduceIte,reduceCtorEq,↓reduceIte]
    try simp only [hj',w2,hP,hb,hX,td,reduceCtorEq]
    exact ⟨j+1,by omega,⟨by omega,hnx rfl⟩,rfl⟩
   ·simp only [↓hcsBack23,entSmall23,entFw23,entWld,entMk,entSmP,entSTy,entAt23,entSm23,entWot23,entSmSt,undef,hj',w2,hP,hb,hX,hx,go_sem,YA,YS,YM,YL,YE,YD,YB,YN,YR,reduceIte,reduceCtorEq,↓reduceIte]
    try simp only [hj',w2,hP,hb,hX,hx,td,reduceCtorEq]
  ·simp only [↓hcsBack23,entSmall23,entFw23,entWld,entMk,entSmP,entSTy,entAt23,entSm23,entWot23,entSmSt,undef,hj',w2,hP,hb,hX,he,go_sem,YA,YS,YM,YL,YE,YD,YB,YN,YR,reduceIte,reduceCtorEq,↓reduceIte]
   try simp only [hj',w2,hP,hb,hX,he,td,reduceCtorEq]
 obtain rfl:j=ps.length:=by omega
 by_cases ht:(tryF (N,A,C,Q,P,S1,S2,S3) ps (r,f,t,p,d)).2=0
 case neg =>
  have hno:=try_no ht
  obtain ⟨X,hX⟩:∃ X,tryF (N,A,C,Q,P,S1,S2,S3) ps (r,f,t,p,d)=X:=⟨_,rfl⟩
  obtain ⟨x,e⟩:=X
  rw [hX] at ht hno
  dsimp only at ht hno
  subst hno
  simp only [↓hcsBack23,entSmall23,entFw23,entWld,entMk,entSmP,entSTy,entAt23,entSm23,entWot23,entSmSt,undef,hj',hq,hl,h1,hX,ht,go_sem,YA,YS,YM,YL,YE,YD,YB,YN,YR,reduceIte,reduceCtorEq,↓reduceIte]
  try simp only [hj',hq,hl,h1,hX,ht,td,reduceCtorEq]
  all_goals (repeat' apply And.intro) <;> first | exact h1 | exact h2 | rfl
 obtain ⟨hR,hM⟩:=try_yes ht
 rw [hM] at ht
 have hR2:=moved_right hR ht
 have hbk:=moved_back hR hn ht
 have hls:=fun i hi=>moved_less hR ht (i:=i) hi
 obtain ⟨f',t',p',d',hmE,hmP⟩:=moved_has hR ht
 have hlen:=hmP.len
 have hff:=hmP.hf
 rw [← try_right hR2] at hbk
 have ef:f=(f':Int):=congrArg (fun x:DMove=>x.2.1) hmE
 subst ef
 clear hmP hmE
 rw [planAt_nat] at hbk
 have hf2:=hR2.lens hq
 obtain ⟨X,hX⟩:∃ X,movedF (N,A,C,Q,P,S1,S2,S3) ps (r,(f':Int),t,p,d)=X:=⟨_,rfl⟩
 obtain ⟨nx,e⟩:=X
 rw [hX] at ht hbk hls hlen hM hf2
 dsimp only at ht hbk hls hlen hf2
 subst ht
 have l1:∀ p ∈ nx,p.2.1.length≤24∧p.2.2.1.length≤1000000∧p.2.2.2.length≤1000000:=fun p hp=>by have:=hf2 p hp;omega
 have l2:nx.length≤1000:=by omega
 have l3:(nx.length:Int)=(ps.length:Int):=by omega
 have c1:¬ (f':Int) < 0:=by omega
 have c2:¬ (f':Int) ≥ (ps.length:Int):=by omega
 have c3:¬ (ps.length:Int)≤(f':Int):=by omega
 have hat:=at_lt (x:=(r,false)) (ss:=(ps.getD f' dPlan).2.1)
 have hbf:=h2 (ps.getD f' dPlan) (by simp [List.getD,hff])
 have wd:IntKind.i64.wrap (atF (r,false) (ps.getD f' dPlan).2.1 - 1)=atF (r,false) (ps.getD f' dPlan).2.1 - 1:=i64_in _ (by omega)
 dsimp only [dPlan] at hbk wd
 simp only [↓hcsBack23,entSmall23,entFw23,entWld,entMk,entSmP,entSTy,entAt23,entSm23,entWot23,entSmSt,undef,hj',hq,hl,h1,hM,l1,l2,l3,hlen,c1,c2,c3,hff,wd,hbk,Int.toNat_natCast,go_sem,YA,YS,YM,YL,YE,YD,YB,YN,YR,reduceIte,reduceCtorEq,↓reduceIte]
 try simp only [hj',hq,hl,h1,hM,l1,l2,l3,hlen,c1,c2,c3,hff,wd,hbk,Int.toNat_natCast,td,reduceCtorEq]
 refine ⟨h1,l1,?_⟩
 refine XW_for 2000 x6_1d [0,1,11] Nat (fun i=>[(18,.val (.int .i64) (i:Int))]) (fun _=>[]) (fun i=>i≤ps.length) (fun i=>ps.length - i) 0 ?_ ?_ ?_
 ·dsimp only [x6_1d]
  simp only [go_sem,YA,YS,YM,YL,YE,YD,YB,YN,YR,reduceIte,reduceCtorEq,↓reduceIte]
  try rfl
 ·exact Nat.zero_le _
 intro i hi
 dsimp only [x6_1,x6_1d,Z1,Z12,Z13,Za,Zb,Zc,Zf]
 by_cases hi':i < ps.length
 ·have wi:IntKind.i64.wrap ((i:Int)+1)=((i+1:Nat):Int):=i64_in _ (by omega)
  have hin:i < nx.length:=by omega
  have g1:=h2 (ps.getD i dPlan) (by simp [List.getD,hi'])
  have g2:=(l1 (nx.getD i dPlan) (by simp [List.getD,hin])).1
  have g3:=hls i hi'
  dsimp only [dPlan] at g1 g2 g3
  have g4:(ps.getD i (0,[],[],[])).2.1.length≤1000000:=by omega
  have g5:(nx.getD i (0,[],[],[])).2.1.length≤1000000:=by omega
  simp only [↓hcsBack23,entSmall23,entFw23,entWld,entMk,entSmP,entSTy,entAt23,entSm23,entWot23,entSmSt,undef,hi',hin,wi,g3,g4,g5,go_sem,YA,YS,YM,YL,YE,YD,YB,YN,YR,reduceIte,reduceCtorEq,↓reduceIte]
  try simp only [hi',hin,wi,g3,g4,g5,td,reduceCtorEq]
  first | exact ⟨i+1,by omega,by omega,rfl⟩
 ·obtain rfl:i=ps.length:=by omega
  simp only [↓hcsBack23,entSmall23,entFw23,entWld,entMk,entSmP,entSTy,entAt23,entSm23,entWot23,entSmSt,undef,hi',go_sem,YA,YS,YM,YL,YE,YD,YB,YN,YR,reduceIte,reduceCtorEq,↓reduceIte]
  try simp only [hi',td,reduceCtorEq]
end T
end Go.Proofs.YtcnfmabhghhdnaaGreat
end
