/- Parts of the proof (put together by a program): definitions, lemmas, and the law; no condition. -/
import Derived.Test.YtcnfmabhghhdnaaGreatV46
import Derived.Test.YtcnfmabhghhdnaaGreatV50
import Derived.Test.YtcnfmabhghhdnaaGreatV51
import Derived.Test.YtcnfmabhghhdnaaGreatV6
set_option linter.unusedVariables false
set_option linter.unusedSimpArgs false
open Nat renaming reduceAdd → YA, reduceSub → YS, reduceMul → YM, reduceLT → YL, reduceLeDiff → YE, reduceEqDiff → YD, reduceBEq → YB, reduceBNe → YN
open List renaming reduceReplicate → YR
section
namespace Go.Proofs.YtcnfmabhghhdnaaGreat
open Go.RowKit Go.IntWalk
namespace T
theorem z10:¬ (1:Int)=0:=by decide
theorem z60:¬ (6:Int)=0:=by decide
def entMoves23:Ent:=⟨5,.cons (.st (.cons (.int .i64) (.cons (.sl (.st (.cons (.int .i64) (.cons (.int .i64) (.cons (.sl (.int .i64)) (.sl (.int .i64))))))) (.cons (.sl (.st (.cons (.int .i64) (.cons (.int .i64) (.cons (.int .i64) (.cons (.int .i64) (.cons (.int .i64) (.cons (.int .i64) (.cons (.int .i64) (.cons (.int .i64) (.int .i64))))))))))) (.cons (.sl (.st (.cons (.int .i64) (.cons (.int .i64) (.cons (.int .i64) (.cons (.int .i64) (.cons (.int .i64) (.cons (.int .i64) (.cons (.int .i64) (.cons (.int .i64) (.cons (.int .i64) (.int .i64)))))))))))) (.cons (.sl (.st (.cons (.int .i64) (.cons (.int .i64) .bool)))) (.st (.cons (.int .i64) (.cons (.int .i64) (.int .i64)))))))))) (.cons (.sl (.st (.cons (.int .i64) (.cons (.sl (.st (.cons (.int .i64) .bool))) (.cons (.sl (.st (.cons (.int .i64) (.int .i64)))) (.sl (.int .i64))))))) .nil),.bool,false,none,fun _=>True,fun _=>true⟩
def csMoves23:List Ent:=[entSmall23,entFw23,entWld,entSTy,entSSm,entImp,entSm23] theorem hcsMoves23 (f:FuncId):findEnt csMoves23 f=findEnt [entSmall23,entFw23,entWld,entSTy,entSSm,entImp,entSm23] f:=rfl
set_option maxHeartbeats 8000000 in
theorem conMoves23:Con Tryz.prog entMoves23:=by
 refine con_is (C:=csMoves23) x5 (by kernel_rfl) (by simp [csMoves23,conSmall23,conFw23,conWld,conSTy,conSSm,conImp,conSm23]) fun x _ hf=>?_
 obtain ⟨⟨(N:Int),(A:List DArc),(C:List DCar),(Q:List DReq),(P:List DPair),(S1:Int),(S2:Int),(S3:Int)⟩,(ps:List DPlan),_⟩:=x
 dsimp only [entMoves23,x5,Z24,Za,Zb,Zc,Zd,Zg]
 cases h0:few23 (N,A,C,Q,P,S1,S2,S3) ps
 ·simp only [↓hcsMoves23,entSmall23,entFw23,entWld,entSTy,entSSm,entImp,entSm23,undef,h0,go_sem,YA,YS,YM,YL,YE,YD,YB,YN,YR,reduceIte,reduceCtorEq,↓reduceIte]
  try simp only [h0,td,reduceCtorEq]
 obtain ⟨f0,f1,f2⟩:=few23_iff.1 h0
 dsimp only at f0
 have hq:Q.length≤10:=by omega
 have hl:ps.length≤1000:=by omega
 have h1:∀ p ∈ ps,p.2.1.length≤24∧p.2.2.1.length≤1000000∧p.2.2.2.length≤1000000:=fun p hp=>by have:=f2 p hp;omega
 have h2:∀ p ∈ ps,p.2.1.length≤24:=fun p hp=>(h1 p hp).1
 cases hr:rightPs (N,A,C,Q,P,S1,S2,S3) ps with
 | false =>
  have e2:=imp_no hr
  simp only [↓hcsMoves23,entSmall23,entFw23,entWld,entSTy,entSSm,entImp,entSm23,undef,z10,z60,h0,hq,hl,h1,h2,e2,go_sem,YA,YS,YM,YL,YE,YD,YB,YN,YR,reduceIte,reduceCtorEq,↓reduceIte]
  try simp only [z10,z60,h0,hq,hl,h1,h2,e2,td,reduceCtorEq]
  all_goals (repeat' apply And.intro) <;> first | exact h1 | exact h2 | rfl
 | true =>
 have hR:=rightPs_iff.1 hr
 have e1:=sum_right hR
 rcases imp_yes hR with e2 | ⟨L,ms,e2,hms,hch,hsc⟩
 ·simp only [↓hcsMoves23,entSmall23,entFw23,entWld,entSTy,entSSm,entImp,entSm23,undef,z10,z60,h0,hq,hl,h1,h2,e1,e2,go_sem,YA,YS,YM,YL,YE,YD,YB,YN,YR,reduceIte,reduceCtorEq,↓reduceIte]
  try simp only [z10,z60,h0,hq,hl,h1,h2,e1,e2,td,reduceCtorEq]
  all_goals (repeat' apply And.intro) <;> first | exact h1 | exact h2 | rfl
 obtain ⟨K,hK⟩:∃ K:Nat→List DPlan,∀ k,K k=stN (N,A,C,Q,P,S1,S2,S3) ps ms k:=⟨_,fun k=>rfl⟩
 have hend:K ms.length=L:=(hK _).trans (chain_end hR hch)
 have hat:∀ k,k≤ms.length→RightPs (N,A,C,Q,P,S1,S2,S3) (K k):=fun k hk=>by rw [hK];exact (chain_at hR hch k hk).2
 have hlenK:∀ k,k≤ms.length→(K k).length≤1000∧∀ p ∈ K k,p.2.1.length≤24∧p.2.2.1.length≤1000000∧p.2.2.2.length≤1000000:=fun k hk=>by
  have h:=hat k hk
  refine ⟨by rw [h.2.1,← hR.2.1];exact hl,fun p hp=>by have:=h.lens hq p hp;omega⟩
 have hstep:∀ k,k < ms.length→tryF (N,A,C,Q,P,S1,S2,S3) (K k) (ms.getD k dMove)=(K (k+1),0)∧totalF (N,A,C,Q,P,S1,S2,S3) (K (k+1)) < totalF (N,A,C,Q,P,S1,S2,S3) (K k):=fun k hk=>by
  have h:=chain_step hR hch hk
  have e:K (k+1)=(movedF (N,A,C,Q,P,S1,S2,S3) (K k) (ms.getD k dMove)).1:=by rw [hK,hK];rfl
  rw [← hK,← hK] at h
  refine ⟨?_,h.2⟩
  rw [try_right (hat k (by omega))]
  exact Prod.ext e.symm h.1
 have hK0:K 0=ps:=hK 0
 clear hch hsc hK
 obtain ⟨n,hn⟩:∃ n:Nat→Int,∀ k,n k=totalF (N,A,C,Q,P,S1,S2,S3) (K k):=⟨_,fun k=>rfl⟩
 have hsum:∀ k,k≤ms.length→sumF (N,A,C,Q,P,S1,S2,S3) (K k)=(n k,true):=fun k hk=>by rw [sum_right (hat k hk),hn]
 have hs0:=hsum 0 (Nat.zero_le _)
 rw [hK0] at hs0
 simp only [↓hcsMoves23,entSmall23,entFw23,entWld,entSTy,entSSm,entImp,entSm23,undef,h0,hq,hl,h1,h2,hs0,e2,go_sem,YA,YS,YM,YL,YE,YD,YB,YN,YR,reduceIte,reduceCtorEq,↓reduceIte]
 try simp only [h0,hq,hl,h1,h2,hs0,e2,td,reduceCtorEq]
 refine ⟨h1,h2,?_⟩
 refine XW_for 1000 x5_0d [0,10] Nat (fun i=>[(13,.val (.int .i64) (i:Int)),(10,.val (.sl (.st (.cons (.int .i64) (.cons (.sl (.st (.cons (.int .i64) .bool))) (.cons (.sl (.st (.cons (.int .i64) (.int .i64)))) (.sl (.int .i64))))))) (K i)),(11,.val (.int .i64) (n i))]) (fun _=>[]) (fun i=>i≤ms.length) (fun i=>ms.length - i) 0 ?_ ?_ ?_
 ·dsimp only [x5_0d]
  simp only [hK0,go_sem,YA,YS,YM,YL,YE,YD,YB,YN,YR,reduceIte,reduceCtorEq,↓reduceIte]
  try trivial
  try exact ⟨rfl,rfl,rfl⟩
  try exact ⟨rfl,rfl⟩
 ·exact Nat.zero_le _
 intro i hi
 dsimp only [x5_0,x5_0d,Z21,Z24,Za,Zb,Zc,Ze,Zf,Zg]
 by_cases hi':i < ms.length
 ·have wi:IntKind.i64.wrap ((i:Int)+1)=((i+1:Nat):Int):=i64_in _ (by omega)
  obtain ⟨k1,k2⟩:=hlenK i hi
  obtain ⟨k3,k4⟩:=hlenK (i+1) hi'
  have k5:∀ p ∈ K (i+1),p.2.1.length≤24:=fun p hp=>(k4 p hp).1
  obtain ⟨s1,s2⟩:=hstep i hi'
  rw [← hn,← hn] at s2
  have s3:=hsum (i+1) hi'
  have s4:¬ n (i+1) ≥ n i:=by omega
  have s5:¬ n i≤n (i+1):=by omega
  dsimp only [dMove] at s1
  simp only [↓hcsMoves23,entSmall23,entFw23,entWld,entSTy,entSSm,entImp,entSm23,undef,hi',wi,hq,k1,k3,s1,s3,s4,s5,go_sem,YA,YS,YM,YL,YE,YD,YB,YN,YR,reduceIte,reduceCtorEq,↓reduceIte]
  try simp only [hi',wi,hq,k1,k3,s1,s3,s4,s5,td,reduceCtorEq]
  first | exact ⟨k2,k5,i+1,by omega,by omega,rfl⟩ | exact ⟨k2,k5,i+1,by omega,by omega,rfl,rfl,rfl⟩
 ·obtain rfl:i=ms.length:=by omega
  simp only [↓hcsMoves23,entSmall23,entFw23,entWld,entSTy,entSSm,entImp,entSm23,undef,hi',hend,go_sem,YA,YS,YM,YL,YE,YD,YB,YN,YR,reduceIte,reduceCtorEq,↓reduceIte]
  try simp only [hi',hend,td,reduceCtorEq]
end T
end Go.Proofs.YtcnfmabhghhdnaaGreat
end
