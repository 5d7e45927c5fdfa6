/- Parts of the proof (put together by a program): definitions, lemmas, and the law; no condition. -/
import Derived.Test.YtcnfmabhghhdnaaGreatV46
import Derived.Test.YtcnfmabhghhdnaaGreatV50
import Derived.Test.YtcnfmabhghhdnaaGreatV51
import Derived.Test.YtcnfmabhghhdnaaGreatV6
set_option linter.unusedVariables false
set_option linter.unusedSimpArgs false
open Nat renaming reduceAdd → YA, reduceSub → YS, reduceMul → YM, reduceLT → YL, reduceLeDiff → YE, reduceEqDiff → YD, reduceBEq → YB, reduceBNe → YN
open List renaming reduceReplicate → YR
section
namespace Go.Proofs.YtcnfmabhghhdnaaGreat
open Go.RowKit Go.IntWalk
namespace T
theorem z6:¬ (0:Int)=6:=by decide
theorem z16:¬ (1:Int)=6:=by decide
theorem z66:(6:Int)=6:=rfl
def entBest23:Ent:=⟨4,.cons (.st (.cons (.int .i64) (.cons (.sl (.st (.cons (.int .i64) (.cons (.int .i64) (.cons (.sl (.int .i64)) (.sl (.int .i64))))))) (.cons (.sl (.st (.cons (.int .i64) (.cons (.int .i64) (.cons (.int .i64) (.cons (.int .i64) (.cons (.int .i64) (.cons (.int .i64) (.cons (.int .i64) (.cons (.int .i64) (.int .i64))))))))))) (.cons (.sl (.st (.cons (.int .i64) (.cons (.int .i64) (.cons (.int .i64) (.cons (.int .i64) (.cons (.int .i64) (.cons (.int .i64) (.cons (.int .i64) (.cons (.int .i64) (.cons (.int .i64) (.int .i64)))))))))))) (.cons (.sl (.st (.cons (.int .i64) (.cons (.int .i64) .bool)))) (.st (.cons (.int .i64) (.cons (.int .i64) (.int .i64)))))))))) (.cons (.sl (.st (.cons (.int .i64) (.cons (.sl (.st (.cons (.int .i64) .bool))) (.cons (.sl (.st (.cons (.int .i64) (.int .i64)))) (.sl (.int .i64))))))) (.cons (.st (.cons (.int .i64) (.cons (.int .i64) (.cons (.int .i64) (.cons (.int .i64) (.int .i64)))))) .nil)),.bool,false,none,fun _=>True,fun _=>true⟩
def csBest23:List Ent:=[entSmall23,entFw23,entWld,entSTy,entSSm,entImp,entCar,entCkP] theorem hcsBest23 (f:FuncId):findEnt csBest23 f=findEnt [entSmall23,entFw23,entWld,entSTy,entSSm,entImp,entCar,entCkP] f:=rfl
set_option maxHeartbeats 8000000 in
theorem conBest23:Con Tryz.prog entBest23:=by
 refine con_is (C:=csBest23) x4 (by kernel_rfl) (by simp [csBest23,conSmall23,conFw23,conWld,conSTy,conSSm,conImp,conCar,conCkP]) fun x _ hf=>?_
 obtain ⟨⟨(N:Int),(A:List DArc),(C:List DCar),(Q:List DReq),(P:List DPair),(S1:Int),(S2:Int),(S3:Int)⟩,(ps:List DPlan),(m:DMove),_⟩:=x
 obtain ⟨w,hw⟩:∃ w:DWorld,(N,A,C,Q,P,S1,S2,S3)=w:=⟨_,rfl⟩
 have hwq:w.2.2.2.1=Q:=by rw [← hw]
 dsimp only [entBest23,x4,Z21,Z24,Z7,Za,Zb,Zc,Zd,Ze,Zg]
 cases h0:few23 (N,A,C,Q,P,S1,S2,S3) ps
 ·simp only [↓hcsBest23,entSmall23,entFw23,entWld,entSTy,entSSm,entImp,entCar,entCkP,undef,z6,z16,z66,h0,go_sem,YA,YS,YM,YL,YE,YD,YB,YN,YR,reduceIte,reduceCtorEq,↓reduceIte]
  try simp only [z6,z16,z66,h0,td,reduceCtorEq]
 obtain ⟨f0,f1,f2⟩:=few23_iff.1 h0
 dsimp only at f0
 have hq:Q.length≤10:=by omega
 have hl:ps.length≤1000:=by omega
 have h1:∀ p ∈ ps,p.2.1.length≤24∧p.2.2.1.length≤1000000∧p.2.2.2.length≤1000000:=fun p hp=>by have:=f2 p hp;omega
 have h2:∀ p ∈ ps,p.2.1.length≤24:=fun p hp=>(h1 p hp).1
 cases hr:rightPs (N,A,C,Q,P,S1,S2,S3) ps with
 | false =>
  have e1:=sum_no hr
  have e2:=imp_no hr
  simp only [↓hcsBest23,entSmall23,entFw23,entWld,entSTy,entSSm,entImp,entCar,entCkP,undef,z6,z16,z66,h0,hq,hl,h1,h2,e1,e2,go_sem,YA,YS,YM,YL,YE,YD,YB,YN,YR,reduceIte,reduceCtorEq,↓reduceIte]
  try simp only [z6,z16,z66,h0,hq,hl,h1,h2,e1,e2,td,reduceCtorEq]
  all_goals (repeat' apply And.intro) <;> first | exact h1 | exact h2 | rfl
 | true =>
 have hR:=rightPs_iff.1 hr
 have e1:=sum_right hR
 rcases imp_yes hR with e2 | ⟨L,ms,e2,hms,hch,hsc⟩
 ·simp only [↓hcsBest23,entSmall23,entFw23,entWld,entSTy,entSSm,entImp,entCar,entCkP,undef,z6,z16,z66,h0,hq,hl,h1,h2,e1,e2,go_sem,YA,YS,YM,YL,YE,YD,YB,YN,YR,reduceIte,reduceCtorEq,↓reduceIte]
  try simp only [z6,z16,z66,h0,hq,hl,h1,h2,e1,e2,td,reduceCtorEq]
  all_goals (repeat' apply And.intro) <;> first | exact h1 | exact h2 | rfl
 obtain ⟨hRL,hlL,hk,hin⟩:=chain_spec hR hch
 have e3:=sum_right hRL
 have e4:=car_same hR hRL hlL hin (Q.length:Int)
 have hqi:(Q.length:Int)≤1000:=by omega
 have hl2:L.length≤1000:=by omega
 have hln:=hRL.lens hq
 have l1:∀ p ∈ L,p.2.1.length≤24:=fun p hp=>by have:=hln p hp;omega
 have l2:∀ p ∈ L,p.2.1.length≤24∧p.2.2.1.length≤1000000∧p.2.2.2.length≤1000000:=fun p hp=>by have:=hln p hp;omega
 have hm1:(ms.length:Int)≤101:=by omega
 have hck:∀ i,i < L.length→(L.getD i dPlan).1=(i:Int)∧checkP (N,A,C,Q,P,S1,S2,S3) (L.getD i dPlan)=0∧(L.getD i dPlan).2.1.length≤24:=fun i hi=>⟨(hRL.2.2 i hi).1.1,(hRL.2.2 i hi).1.2,l1 _ (by simp [List.getD,hi])⟩
 have htr:=try_right (m:=m) hRL
 have hno:=fun h=>moved_no (w:=(N,A,C,Q,P,S1,S2,S3)) (ps:=L) (m:=m) h
 have hyes:(movedF (N,A,C,Q,P,S1,S2,S3) L m).2=0→sumF (N,A,C,Q,P,S1,S2,S3) (movedF (N,A,C,Q,P,S1,S2,S3) L m).1=(totalF (N,A,C,Q,P,S1,S2,S3) (movedF (N,A,C,Q,P,S1,S2,S3) L m).1,true)∧totalF (N,A,C,Q,P,S1,S2,S3) L≤totalF (N,A,C,Q,P,S1,S2,S3) (movedF (N,A,C,Q,P,S1,S2,S3) L m).1∧(movedF (N,A,C,Q,P,S1,S2,S3) L m).1.length≤1000∧∀ p ∈ (movedF (N,A,C,Q,P,S1,S2,S3) L m).1,p.2.1.length≤24:=fun h=>by
  have hm2:=moved_right hRL h
  refine ⟨sum_right hm2,scan_none hsc m (moved_mem hRL h) h,?_,fun p hp=>by have:=hm2.lens hq p hp;omega⟩
  rw [hm2.2.1,← hRL.2.1];exact hl2
 clear hin hch hsc hln
 obtain ⟨M,hM⟩:∃ M,movedF (N,A,C,Q,P,S1,S2,S3) L m=M:=⟨_,rfl⟩
 obtain ⟨nx,e⟩:=M
 rw [hM] at htr hno hyes
 dsimp only at hno hyes
 have hlt:(decide (totalF (N,A,C,Q,P,S1,S2,S3) L < totalF (N,A,C,Q,P,S1,S2,S3) ps)=decide (ms.length > 0))∧totalF (N,A,C,Q,P,S1,S2,S3) L≤totalF (N,A,C,Q,P,S1,S2,S3) ps:=by
  rcases hk with ⟨rfl,rfl⟩ | ⟨k1,k2⟩
  ·exact ⟨by simp,Int.le_refl _⟩
  ·have:0 < ms.length:=List.length_pos_iff.2 k1
   exact ⟨by rw [decide_eq_true k2,decide_eq_true this],by omega⟩
 obtain ⟨n,hn⟩:∃ n,totalF (N,A,C,Q,P,S1,S2,S3) ps=n:=⟨_,rfl⟩
 obtain ⟨k,hkk⟩:∃ n,totalF (N,A,C,Q,P,S1,S2,S3) L=n:=⟨_,rfl⟩
 rw [hn] at e1 hlt
 rw [hkk] at e3 hlt hyes
 have hgt:¬ k > n:=by omega
 simp only [↓hcsBest23,entSmall23,entFw23,entWld,entSTy,entSSm,entImp,entCar,entCkP,undef,z6,z16,z66,h0,hq,hqi,hl,hl2,h1,h2,e1,e2,e3,e4,l1,l2,hgt,go_sem,YA,YS,YM,YL,YE,YD,YB,YN,YR,reduceIte,reduceCtorEq,↓reduceIte]
 try simp only [z6,z16,z66,h0,hq,hqi,hl,hl2,h1,h2,e1,e2,e3,e4,l1,l2,hgt,td,reduceCtorEq]
 have hlt':decide (k < n)=decide (0 < (ms.length:Int)):=by
  rw [hlt.1,decide_eq_decide];omega
 refine ⟨h2,h1,l1,fun z=>z hlt',fun _=>?_⟩
 refine XW_for 1000 x4_0d [0,1,11] Nat (fun i=>[(16,.val (.int .i64) (i:Int))]) (fun _=>[]) (fun i=>i≤L.length) (fun i=>L.length - i) 0 ?_ ?_ ?_
 ·dsimp only [x4_0d]
  simp only [go_sem,YA,YS,YM,YL,YE,YD,YB,YN,YR,reduceIte,reduceCtorEq,↓reduceIte]
  try rfl
 ·exact Nat.zero_le _
 intro i hi
 dsimp only [x4_0,x4_0d,Z1,Z13,Z24,Za,Zc,Zf,Zh]
 by_cases hi':i < L.length
 ·have wi:IntKind.i64.wrap ((i:Int)+1)=((i+1:Nat):Int):=i64_in _ (by omega)
  obtain ⟨k1,k2,k3⟩:=hck i hi'
  dsimp only [dPlan] at k1 k2 k3
  simp only [↓hcsBest23,entSmall23,entFw23,entWld,entSTy,entSSm,entImp,entCar,entCkP,undef,hi',wi,k1,k2,k3,go_sem,YA,YS,YM,YL,YE,YD,YB,YN,YR,reduceIte,reduceCtorEq,↓reduceIte]
  try simp only [hi',wi,k1,k2,k3,td,reduceCtorEq]
  exact ⟨i+1,by omega,by omega,rfl⟩
 ·by_cases he:e=0
  ·subst he
   obtain ⟨y1,y2,y3,y4⟩:=hyes rfl
   obtain ⟨o,hoo⟩:∃ n,totalF (N,A,C,Q,P,S1,S2,S3) nx=n:=⟨_,rfl⟩
   rw [hoo] at y1 y2
   have y5:o ≥ k:=y2
   simp only [↓hcsBest23,entSmall23,entFw23,entWld,entSTy,entSSm,entImp,entCar,entCkP,undef,hi',hq,hl2,htr,y1,y2,y3,y5,go_sem,YA,YS,YM,YL,YE,YD,YB,YN,YR,reduceIte,reduceCtorEq,↓reduceIte]
   try simp only [hi',hq,hl2,htr,y1,y2,y3,y5,td,reduceCtorEq]
   exact ⟨l2,y4⟩
  ·have hnx:=hno he
   subst hnx
   simp only [↓hcsBest23,entSmall23,entFw23,entWld,entSTy,entSSm,entImp,entCar,entCkP,undef,hi',hq,hl2,htr,he,go_sem,YA,YS,YM,YL,YE,YD,YB,YN,YR,reduceIte,reduceCtorEq,↓reduceIte]
   try simp only [hi',hq,hl2,htr,he,td,reduceCtorEq]
   exact ⟨l2,rfl⟩
end T
end Go.Proofs.YtcnfmabhghhdnaaGreat
end
