/- Parts of the proof of the law; no condition. -/
import Derived.Test.YtpocfbfmjippnaaGreatH43
set_option linter.all false
section
namespace Go.Proofs.YtpocfbfmjippnaaGreat
open Go.RowKit Go.IntWalk
namespace T
set_option pp.deepTerms true
set_option pp.maxSteps 1000000
set_option maxHeartbeats 2000000
def entRsP:Ent:=⟨12,.cons Z23 (.cons Z23 .nil),.bool,false,none,fun _=>True,fun x=>decide ((x.1:List DPlan)=x.2.1)⟩
def csRsP:List Ent:=[entSmP] theorem hcsRsP (f:FuncId):findEnt csRsP f=findEnt [entSmP] f:=rfl
theorem conRsP:Con Tryz.prog entRsP:=by
 refine con_is (C:=csRsP) x12 (by kernel_rfl) (by simp[csRsP,conSmP]) fun x hx hf=>?_;obtain ⟨(a:List DPlan),(b:List DPlan),_⟩:=x;have hl:a.length≤9223372036854775807:=hf.1.1;by_cases hab:a.length=b.length
 ·have habi:(a.length:Int)=(b.length:Int):=by omega
  dsimp only[entRsP,x12];simp only[↓hcsRsP,entSmP,habi,go_sem];try simp only[habi,td,reduceCtorEq]
  refine XW_for 1000 x12_0d [] Nat (fun j=>[(5,.val Z1 (j:Int))]) (fun _=>[]) (fun j=>j≤a.length∧∀i,i<j→a.getD i dPln=b.getD i dPln) (fun j=>a.length-j) 0 ?_ ?_ ?_
  ·dsimp only[x12_0d];simp only[go_sem];try trivial
  ·exact ⟨Nat.zero_le _,fun i hi=>by omega⟩
  rintro j ⟨hj,hn⟩;by_cases hja:j<a.length
  ·have hjb:j<b.length:=by omega
   have w2:IntKind.i64.wrap ((j:Int)+1)=((j+1:Nat):Int):=i64_in _ (by omega);have hne:a.getD j dPln≠b.getD j dPln→decide (a=b)=false:=fun h=>decide_eq_false fun z=>h (by rw[z]);have hnx:a.getD j dPln=b.getD j dPln→∀i,i<j+1→a.getD i dPln=b.getD i dPln:=fun h i hi=>by
    rcases Nat.lt_or_ge i j with q|q
    ·exact hn i q
    ·rw[show i=j by omega];exact h
   obtain ⟨u,hA⟩:∃u,a.getD j dPln=u:=⟨_,rfl⟩;obtain ⟨v,hB⟩:∃v,b.getD j dPln=v:=⟨_,rfl⟩;rw[hA,hB] at hne hnx;obtain ⟨u1,u2,u3,u4⟩:=u;obtain ⟨v1,v2,v3,v4⟩:=v;dsimp only[dPln] at hA hB;dsimp only[x12_0,x12_0d];simp only[↓hcsRsP,entSmP,hja,hjb,w2,hA,hB,habi,go_sem];try simp only[hja,hjb,w2,hA,hB,habi,td,reduceCtorEq]
   exact ⟨fun h=>(hne h).symm,fun h=>⟨j+1,by omega,⟨by omega,hnx h⟩,rfl⟩⟩
  ·have hjb:¬j<b.length:=by omega
   have heq:decide (a=b)=true:=decide_eq_true (ext_getD dPln hab fun i hi=>hn i (by omega));dsimp only[x12_0,x12_0d];simp only[↓hcsRsP,entSmP,hja,hjb,heq,habi,go_sem];try simp only[hja,hjb,heq,habi,td,reduceCtorEq]
   try trivial
 ·have habi:¬(a.length:Int)=(b.length:Int):=by omega
  have hne:decide (a=b)=false:=decide_eq_false fun z=>hab (by rw[z]);dsimp only[entRsP,x12];simp only[↓hcsRsP,entSmP,habi,hne,go_sem];try simp only[habi,hne,td,reduceCtorEq]
  try trivial
def entRsI:Ent:=⟨13,.cons Z5 (.cons Z5 .nil),.bool,false,none,fun _=>True,fun x=>decide ((x.1:List Int)=x.2.1)⟩
def csRsI:List Ent:=[entEqIn] theorem hcsRsI (f:FuncId):findEnt csRsI f=findEnt [entEqIn] f:=rfl
theorem conRsI:Con Tryz.prog entRsI:=by
 refine con_is (C:=csRsI) x13 (by kernel_rfl) (by simp[csRsI,conEqIn]) fun x hx hf=>?_;obtain ⟨(a:List Int),(b:List Int),_⟩:=x;have hl:a.length≤9223372036854775807:=hf.1.1;by_cases hab:a.length=b.length
 ·have habi:(a.length:Int)=(b.length:Int):=by omega
  dsimp only[entRsI,x13];simp only[↓hcsRsI,entEqIn,habi,go_sem];try simp only[habi,td,reduceCtorEq]
  refine XW_for 1000 x13_0d [] Nat (fun j=>[(5,.val Z1 (j:Int))]) (fun _=>[]) (fun j=>j≤a.length∧∀i,i<j→a.getD i 0=b.getD i 0) (fun j=>a.length-j) 0 ?_ ?_ ?_
  ·dsimp only[x13_0d];simp only[go_sem];try trivial
  ·exact ⟨Nat.zero_le _,fun i hi=>by omega⟩
  rintro j ⟨hj,hn⟩;by_cases hja:j<a.length
  ·have hjb:j<b.length:=by omega
   have w2:IntKind.i64.wrap ((j:Int)+1)=((j+1:Nat):Int):=i64_in _ (by omega);have hne:a.getD j 0≠b.getD j 0→decide (a=b)=false:=fun h=>decide_eq_false fun z=>h (by rw[z]);have hnx:a.getD j 0=b.getD j 0→∀i,i<j+1→a.getD i 0=b.getD i 0:=fun h i hi=>by
    rcases Nat.lt_or_ge i j with q|q
    ·exact hn i q
    ·rw[show i=j by omega];exact h
   obtain ⟨u,hA⟩:∃u,a.getD j 0=u:=⟨_,rfl⟩;obtain ⟨v,hB⟩:∃v,b.getD j 0=v:=⟨_,rfl⟩;rw[hA,hB] at hne hnx;skip;dsimp only[x13_0,x13_0d];simp only[↓hcsRsI,entEqIn,hja,hjb,w2,hA,hB,habi,go_sem];try simp only[hja,hjb,w2,hA,hB,habi,td,reduceCtorEq]
   exact ⟨fun h=>(hne h).symm,fun h=>⟨j+1,by omega,⟨by omega,hnx h⟩,rfl⟩⟩
  ·have hjb:¬j<b.length:=by omega
   have heq:decide (a=b)=true:=decide_eq_true (ext_getD 0 hab fun i hi=>hn i (by omega));dsimp only[x13_0,x13_0d];simp only[↓hcsRsI,entEqIn,hja,hjb,heq,habi,go_sem];try simp only[hja,hjb,heq,habi,td,reduceCtorEq]
   try trivial
 ·have habi:¬(a.length:Int)=(b.length:Int):=by omega
  have hne:decide (a=b)=false:=decide_eq_false fun z=>hab (by rw[z]);dsimp only[entRsI,x13];simp only[↓hcsRsI,entEqIn,habi,hne,go_sem];try simp only[habi,hne,td,reduceCtorEq]
  try trivial
def entRsC:Ent:=⟨14,.cons Z25 (.cons Z25 .nil),.bool,false,none,fun _=>True,fun x=>decide ((x.1:List DCase)=x.2.1)⟩
def csRsC:List Ent:=[entRsI] theorem hcsRsC (f:FuncId):findEnt csRsC f=findEnt [entRsI] f:=rfl
theorem conRsC:Con Tryz.prog entRsC:=by
 refine con_is (C:=csRsC) x14 (by kernel_rfl) (by simp[csRsC,conRsI]) fun x hx hf=>?_;obtain ⟨(a:List DCase),(b:List DCase),_⟩:=x;have hl:a.length≤9223372036854775807:=hf.1.1;by_cases hab:a.length=b.length
 ·have habi:(a.length:Int)=(b.length:Int):=by omega
  dsimp only[entRsC,x14];simp only[↓hcsRsC,entRsI,habi,go_sem];try simp only[habi,td,reduceCtorEq]
  refine XW_for 1000 x14_0d [] Nat (fun j=>[(5,.val Z1 (j:Int))]) (fun _=>[]) (fun j=>j≤a.length∧∀i,i<j→a.getD i dCase=b.getD i dCase) (fun j=>a.length-j) 0 ?_ ?_ ?_
  ·dsimp only[x14_0d];simp only[go_sem];try trivial
  ·exact ⟨Nat.zero_le _,fun i hi=>by omega⟩
  rintro j ⟨hj,hn⟩;by_cases hja:j<a.length
  ·have hjb:j<b.length:=by omega
   have w2:IntKind.i64.wrap ((j:Int)+1)=((j+1:Nat):Int):=i64_in _ (by omega);have hne:a.getD j dCase≠b.getD j dCase→decide (a=b)=false:=fun h=>decide_eq_false fun z=>h (by rw[z]);have hnx:a.getD j dCase=b.getD j dCase→∀i,i<j+1→a.getD i dCase=b.getD i dCase:=fun h i hi=>by
    rcases Nat.lt_or_ge i j with q|q
    ·exact hn i q
    ·rw[show i=j by omega];exact h
   obtain ⟨u,hA⟩:∃u,a.getD j dCase=u:=⟨_,rfl⟩;obtain ⟨v,hB⟩:∃v,b.getD j dCase=v:=⟨_,rfl⟩;rw[hA,hB] at hne hnx;obtain ⟨u1,u2⟩:=u;obtain ⟨v1,v2⟩:=v;dsimp only[dCase] at hA hB;dsimp only[x14_0,x14_0d];simp only[↓hcsRsC,entRsI,hja,hjb,w2,hA,hB,habi,go_sem];try simp only[hja,hjb,w2,hA,hB,habi,td,reduceCtorEq]
   exact ⟨fun h=>(hne fun q=>h.elim (fun h=>h (congrArg Prod.snd q)) (fun h=>h (congrArg Prod.fst q))).symm,fun h=>⟨j+1,by omega,⟨by omega,hnx (by rw[h.1,h.2])⟩,rfl⟩⟩
  ·have hjb:¬j<b.length:=by omega
   have heq:decide (a=b)=true:=decide_eq_true (ext_getD dCase hab fun i hi=>hn i (by omega));dsimp only[x14_0,x14_0d];simp only[↓hcsRsC,entRsI,hja,hjb,heq,habi,go_sem];try simp only[hja,hjb,heq,habi,td,reduceCtorEq]
   try trivial
 ·have habi:¬(a.length:Int)=(b.length:Int):=by omega
  have hne:decide (a=b)=false:=decide_eq_false fun z=>hab (by rw[z]);dsimp only[entRsC,x14];simp only[↓hcsRsC,entRsI,habi,hne,go_sem];try simp only[habi,hne,td,reduceCtorEq]
  try trivial
def entEnS:Ent:=⟨40,.cons Z21 (.cons Z23 .nil),(.int .i64),false,none,fun x=>List.length (α:=DPlan) x.2.1≤1000,fun x=>endsR x.1 x.2.1⟩
def csEnS:List Ent:=[entEnR] theorem hcsEnS (f:FuncId):findEnt csEnS f=findEnt [entEnR] f:=rfl
theorem conEnS:Con Tryz.prog entEnS:=by
 refine con_is (C:=csEnS) x40 (by kernel_rfl) (by simp[csEnS,conEnR]) fun x hx hf=>?_;obtain ⟨⟨(N:Int),(A:List DArc),(C:List DCar),(Q:List DReq),(P:List DPair),(S1:Int),(S2:Int),(S3:Int)⟩,(ps:List DPlan),_⟩:=x;have hl:ps.length≤1000:=hx;dsimp only[entEnS,x40];simp only[↓hcsEnS,entEnR,go_sem];try simp only[td,reduceCtorEq]
 refine XW_for 1000 x40_0d [0] Nat (fun i=>[(6,.val Z1 (i:Int)),(5,.val Z1 (endsR (N,A,C,Q,P,S1,S2,S3) (ps.take i)))]) (fun _=>[]) (fun i=>i≤ps.length) (fun i=>ps.length-i) 0 ?_ ?_ ?_
 ·dsimp only[x40_0d];simp only[go_sem];first|done|exact ⟨rfl,rfl⟩|rfl
 ·exact Nat.zero_le _
 intro i hi;dsimp only[x40_0,x40_0d];by_cases hi':i<ps.length
 case pos=>
  have wi:IntKind.i64.wrap ((i:Int)+1)=((i+1:Nat):Int):=i64_in _ (by omega);have he1:=endsR_at (w:=(N,A,C,Q,P,S1,S2,S3)) hi';have he2:=endsR_rng (N,A,C,Q,P,S1,S2,S3) (ps.take (i+1));rw[List.length_take] at he2;dsimp only[dPln] at he1;obtain ⟨⟨pc,pss,pL,pG⟩,hPi⟩:∃p:DPlan,ps.getD i (0,[],[],[])=p:=⟨_,rfl⟩;rw[hPi] at he1;have we:IntKind.i64.wrap (endsR (N,A,C,Q,P,S1,S2,S3) (ps.take i)+(endP (N,A,C,Q,P,S1,S2,S3) (pc,pss,pL,pG)).1)=endsR (N,A,C,Q,P,S1,S2,S3) (ps.take (i+1)):=by
   rw[←he1];exact i64_in _ (by omega)
  simp only[↓hcsEnS,entEnR,hi',hPi,wi,we,go_sem];try simp only[hi',hPi,wi,we,td,reduceCtorEq]
  exact ⟨i+1,by omega,hi',rfl,rfl⟩
 obtain rfl:i=ps.length:=by omega
 simp only[↓hcsEnS,entEnR,hi',List.take_length,go_sem];try simp only[hi',List.take_length,td,reduceCtorEq]
end T
end Go.Proofs.YtpocfbfmjippnaaGreat
end
