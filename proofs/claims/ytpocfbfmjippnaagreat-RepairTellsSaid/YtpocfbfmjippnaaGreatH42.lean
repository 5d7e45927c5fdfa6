/- Parts of the proof of the law; no condition. -/
import Derived.Test.YtpocfbfmjippnaaGreatH41
set_option linter.all false
section
namespace Go.Proofs.YtpocfbfmjippnaaGreat
open Go.RowKit Go.IntWalk
namespace T
def entEqSt:Ent:=⟨42,.cons Z15 (.cons Z15 .nil),.bool,false,none,fun _=>True,fun x=>decide ((x.1:List DStop)=x.2.1)⟩
def csEqSt:List Ent:=[] theorem hcsEqSt (f:FuncId):findEnt csEqSt f=findEnt [] f:=rfl
theorem conEqSt:Con Tryz.prog entEqSt:=by
 refine con_is (C:=csEqSt) x42 (by kernel_rfl) (by simp[csEqSt]) fun x hx hf=>?_;obtain ⟨(a:List DStop),(b:List DStop),_⟩:=x;have hl:a.length≤9223372036854775807:=hf.1.1;by_cases hab:a.length=b.length
 ·have habi:(a.length:Int)=(b.length:Int):=by omega
  dsimp only[entEqSt,x42];simp only[↓hcsEqSt,habi,go_sem];try simp only[habi,td,reduceCtorEq]
  refine XW_for 1000 x42_0d [] Nat (fun j=>[(13,.val Z1 (j:Int))]) (fun _=>[]) (fun j=>j≤a.length∧∀i,i<j→a.getD i dStop=b.getD i dStop) (fun j=>a.length-j) 0 ?_ ?_ ?_
  ·dsimp only[x42_0d];simp only[go_sem];try trivial
  ·exact ⟨Nat.zero_le _,fun i hi=>by omega⟩
  rintro j ⟨hj,hn⟩;by_cases hja:j<a.length
  ·have hjb:j<b.length:=by omega
   have w2:IntKind.i64.wrap ((j:Int)+1)=((j+1:Nat):Int):=i64_in _ (by omega);have hne:a.getD j dStop≠b.getD j dStop→decide (a=b)=false:=fun h=>decide_eq_false fun z=>h (by rw[z]);have hnx:a.getD j dStop=b.getD j dStop→∀i,i<j+1→a.getD i dStop=b.getD i dStop:=fun h i hi=>by
    rcases Nat.lt_or_ge i j with q|q
    ·exact hn i q
    ·rw[show i=j by omega];exact h
   generalize hA:a.getD j dStop=u at hne hnx;generalize hB:b.getD j dStop=v at hne hnx;obtain ⟨u1,u2⟩:=u;obtain ⟨v1,v2⟩:=v;have huv:((u1,u2)=(v1,v2))↔u1=v1∧u2=v2:=Prod.mk.injEq _ _ _ _▸Iff.rfl;dsimp only[x42_0,x42_0d];simp only[↓hcsEqSt,hja,hjb,w2,hA,hB,habi,go_sem];try simp only[hja,hjb,w2,hA,hB,habi,td,reduceCtorEq]
   exact ⟨fun h=>(hne (fun q=>h (huv.1 q).1 (huv.1 q).2)).symm,fun h=>⟨j+1,by omega,⟨by omega,hnx (huv.2 h)⟩,rfl⟩⟩
  ·have hjb:¬j<b.length:=by omega
   have heq:decide (a=b)=true:=decide_eq_true (ext_getD dStop hab fun i hi=>hn i (by omega));dsimp only[x42_0,x42_0d];simp only[↓hcsEqSt,hja,hjb,habi,heq,go_sem];try simp only[hja,hjb,habi,heq,td,reduceCtorEq]
 ·have habi:¬(a.length:Int)=(b.length:Int):=by omega
  have hne:decide (a=b)=false:=decide_eq_false fun z=>hab (by rw[z]);dsimp only[entEqSt,x42];simp only[↓hcsEqSt,hab,habi,hne,go_sem];try simp only[hab,habi,hne,td,reduceCtorEq]
def entEqIn:Ent:=⟨44,.cons Z5 (.cons Z5 .nil),.bool,false,none,fun _=>True,fun x=>decide ((x.1:List Int)=x.2.1)⟩
def csEqIn:List Ent:=[] theorem hcsEqIn (f:FuncId):findEnt csEqIn f=findEnt [] f:=rfl
theorem conEqIn:Con Tryz.prog entEqIn:=by
 refine con_is (C:=csEqIn) x44 (by kernel_rfl) (by simp[csEqIn]) fun x hx hf=>?_;obtain ⟨(a:List Int),(b:List Int),_⟩:=x;have hl:a.length≤9223372036854775807:=hf.1.1;by_cases hab:a.length=b.length
 ·have habi:(a.length:Int)=(b.length:Int):=by omega
  dsimp only[entEqIn,x44];simp only[↓hcsEqIn,habi,go_sem];try simp only[habi,td,reduceCtorEq]
  refine XW_for 1000 x44_0d [] Nat (fun j=>[(13,.val Z1 (j:Int))]) (fun _=>[]) (fun j=>j≤a.length∧∀i,i<j→a.getD i 0=b.getD i 0) (fun j=>a.length-j) 0 ?_ ?_ ?_
  ·dsimp only[x44_0d];simp only[go_sem];try trivial
  ·exact ⟨Nat.zero_le _,fun i hi=>by omega⟩
  rintro j ⟨hj,hn⟩;by_cases hja:j<a.length
  ·have hjb:j<b.length:=by omega
   have w2:IntKind.i64.wrap ((j:Int)+1)=((j+1:Nat):Int):=i64_in _ (by omega);have hne:a.getD j 0≠b.getD j 0→decide (a=b)=false:=fun h=>decide_eq_false fun z=>h (by rw[z]);have hnx:a.getD j 0=b.getD j 0→∀i,i<j+1→a.getD i 0=b.getD i 0:=fun h i hi=>by
    rcases Nat.lt_or_ge i j with q|q
    ·exact hn i q
    ·rw[show i=j by omega];exact h
   generalize hA:a.getD j 0=u at hne hnx;generalize hB:b.getD j 0=v at hne hnx;dsimp only[x44_0,x44_0d];simp only[↓hcsEqIn,hja,hjb,w2,hA,hB,habi,go_sem];try simp only[hja,hjb,w2,hA,hB,habi,td,reduceCtorEq]
   exact ⟨fun h=>(hne h).symm,fun h=>⟨j+1,by omega,⟨by omega,hnx h⟩,rfl⟩⟩
  ·have hjb:¬j<b.length:=by omega
   have heq:decide (a=b)=true:=decide_eq_true (ext_getD 0 hab fun i hi=>hn i (by omega));dsimp only[x44_0,x44_0d];simp only[↓hcsEqIn,hja,hjb,habi,heq,go_sem];try simp only[hja,hjb,habi,heq,td,reduceCtorEq]
 ·have habi:¬(a.length:Int)=(b.length:Int):=by omega
  have hne:decide (a=b)=false:=decide_eq_false fun z=>hab (by rw[z]);dsimp only[entEqIn,x44];simp only[↓hcsEqIn,hab,habi,hne,go_sem];try simp only[hab,habi,hne,td,reduceCtorEq]
set_option pp.deepTerms true
set_option pp.maxSteps 1000000
set_option maxHeartbeats 2000000
def entEqFP:Ent:=⟨46,.cons Z23 (.cons Z23 (.cons (.fn2 Z22 Z22 .bool) .nil)),.bool,false,none,fun x=>(x.2.2.1:DPlan→DPlan→Bool)=fun a b=>decide (a=b),fun x=>decide ((x.1:List DPlan)=x.2.1)⟩
def csEqFP:List Ent:=[] theorem hcsEqFP (f:FuncId):findEnt csEqFP f=findEnt [] f:=rfl
theorem conEqFP:Con Tryz.prog entEqFP:=by
 refine con_is (C:=csEqFP) z46 (by kernel_rfl) (by simp[csEqFP]) fun x hx hf=>?_;obtain ⟨(a:List DPlan),(b:List DPlan),(F:DPlan→DPlan→Bool),_⟩:=x;have hF:F=fun a b=>decide (a=b):=hx;have hl:a.length≤9223372036854775807:=hf.1.1;by_cases hab:a.length=b.length
 ·have habi:(a.length:Int)=(b.length:Int):=by omega
  dsimp only[entEqFP,z46];simp only[↓hcsEqFP,habi,go_sem];try simp only[habi,td,reduceCtorEq]
  refine XW_for 1000 z46_0d [] Nat (fun j=>[(17,.val Z1 (j:Int))]) (fun _=>[]) (fun j=>j≤a.length∧∀i,i<j→a.getD i dPln=b.getD i dPln) (fun j=>a.length-j) 0 ?_ ?_ ?_
  ·dsimp only[z46_0d];simp only[go_sem];try trivial
  ·exact ⟨Nat.zero_le _,fun i hi=>by omega⟩
  rintro j ⟨hj,hn⟩;by_cases hja:j<a.length
  ·have hjb:j<b.length:=by omega
   have w2:IntKind.i64.wrap ((j:Int)+1)=((j+1:Nat):Int):=i64_in _ (by omega);have hne:a.getD j dPln≠b.getD j dPln→decide (a=b)=false:=fun h=>decide_eq_false fun z=>h (by rw[z]);have hnx:a.getD j dPln=b.getD j dPln→∀i,i<j+1→a.getD i dPln=b.getD i dPln:=fun h i hi=>by
    rcases Nat.lt_or_ge i j with q|q
    ·exact hn i q
    ·rw[show i=j by omega];exact h
   obtain ⟨u,hA⟩:∃u,a.getD j dPln=u:=⟨_,rfl⟩;obtain ⟨v,hB⟩:∃v,b.getD j dPln=v:=⟨_,rfl⟩;rw[hA,hB] at hne hnx;obtain ⟨u1,u2,u3,u4⟩:=u;obtain ⟨v1,v2,v3,v4⟩:=v;dsimp only[dPln] at hA hB;obtain ⟨z,hz⟩:∃z,F (u1,u2,u3,u4) (v1,v2,v3,v4)=z:=⟨_,rfl⟩;have hz':z=decide (((u1,u2,u3,u4):DPlan)=(v1,v2,v3,v4)):=by rw[←hz,hF]
   dsimp only[z46_0,z46_0d];simp only[↓hcsEqFP,hja,hjb,w2,hA,hB,hz,habi,go_sem];try simp only[hja,hjb,w2,hA,hB,hz,habi,td,reduceCtorEq]
   exact ⟨fun h=>(hne (of_decide_eq_false (hz'.symm.trans h))).symm,fun h=>⟨j+1,by omega,⟨by omega,hnx (of_decide_eq_true (hz'.symm.trans h))⟩,rfl⟩⟩
  ·have hjb:¬j<b.length:=by omega
   have heq:decide (a=b)=true:=decide_eq_true (ext_getD dPln hab fun i hi=>hn i (by omega));dsimp only[z46_0,z46_0d];simp only[↓hcsEqFP,hja,hjb,heq,habi,go_sem];try simp only[hja,hjb,heq,habi,td,reduceCtorEq]
   try trivial
 ·have habi:¬(a.length:Int)=(b.length:Int):=by omega
  have hne:decide (a=b)=false:=decide_eq_false fun z=>hab (by rw[z]);dsimp only[entEqFP,z46];simp only[↓hcsEqFP,habi,hne,go_sem];try simp only[habi,hne,td,reduceCtorEq]
  try trivial
def entEqFC:Ent:=⟨47,.cons Z25 (.cons Z25 (.cons (.fn2 Z24 Z24 .bool) .nil)),.bool,false,none,fun x=>(x.2.2.1:DCase→DCase→Bool)=fun a b=>decide (a=b),fun x=>decide ((x.1:List DCase)=x.2.1)⟩
def csEqFC:List Ent:=[] theorem hcsEqFC (f:FuncId):findEnt csEqFC f=findEnt [] f:=rfl
theorem conEqFC:Con Tryz.prog entEqFC:=by
 refine con_is (C:=csEqFC) z47 (by kernel_rfl) (by simp[csEqFC]) fun x hx hf=>?_;obtain ⟨(a:List DCase),(b:List DCase),(F:DCase→DCase→Bool),_⟩:=x;have hF:F=fun a b=>decide (a=b):=hx;have hl:a.length≤9223372036854775807:=hf.1.1;by_cases hab:a.length=b.length
 ·have habi:(a.length:Int)=(b.length:Int):=by omega
  dsimp only[entEqFC,z47];simp only[↓hcsEqFC,habi,go_sem];try simp only[habi,td,reduceCtorEq]
  refine XW_for 1000 z47_0d [] Nat (fun j=>[(17,.val Z1 (j:Int))]) (fun _=>[]) (fun j=>j≤a.length∧∀i,i<j→a.getD i dCase=b.getD i dCase) (fun j=>a.length-j) 0 ?_ ?_ ?_
  ·dsimp only[z47_0d];simp only[go_sem];try trivial
  ·exact ⟨Nat.zero_le _,fun i hi=>by omega⟩
  rintro j ⟨hj,hn⟩;by_cases hja:j<a.length
  ·have hjb:j<b.length:=by omega
   have w2:IntKind.i64.wrap ((j:Int)+1)=((j+1:Nat):Int):=i64_in _ (by omega);have hne:a.getD j dCase≠b.getD j dCase→decide (a=b)=false:=fun h=>decide_eq_false fun z=>h (by rw[z]);have hnx:a.getD j dCase=b.getD j dCase→∀i,i<j+1→a.getD i dCase=b.getD i dCase:=fun h i hi=>by
    rcases Nat.lt_or_ge i j with q|q
    ·exact hn i q
    ·rw[show i=j by omega];exact h
   obtain ⟨u,hA⟩:∃u,a.getD j dCase=u:=⟨_,rfl⟩;obtain ⟨v,hB⟩:∃v,b.getD j dCase=v:=⟨_,rfl⟩;rw[hA,hB] at hne hnx;obtain ⟨u1,u2⟩:=u;obtain ⟨v1,v2⟩:=v;dsimp only[dCase] at hA hB;obtain ⟨z,hz⟩:∃z,F (u1,u2) (v1,v2)=z:=⟨_,rfl⟩;have hz':z=decide (((u1,u2):DCase)=(v1,v2)):=by rw[←hz,hF]
   dsimp only[z47_0,z47_0d];simp only[↓hcsEqFC,hja,hjb,w2,hA,hB,hz,habi,go_sem];try simp only[hja,hjb,w2,hA,hB,hz,habi,td,reduceCtorEq]
   exact ⟨fun h=>(hne (of_decide_eq_false (hz'.symm.trans h))).symm,fun h=>⟨j+1,by omega,⟨by omega,hnx (of_decide_eq_true (hz'.symm.trans h))⟩,rfl⟩⟩
  ·have hjb:¬j<b.length:=by omega
   have heq:decide (a=b)=true:=decide_eq_true (ext_getD dCase hab fun i hi=>hn i (by omega));dsimp only[z47_0,z47_0d];simp only[↓hcsEqFC,hja,hjb,heq,habi,go_sem];try simp only[hja,hjb,heq,habi,td,reduceCtorEq]
   try trivial
 ·have habi:¬(a.length:Int)=(b.length:Int):=by omega
  have hne:decide (a=b)=false:=decide_eq_false fun z=>hab (by rw[z]);dsimp only[entEqFC,z47];simp only[↓hcsEqFC,habi,hne,go_sem];try simp only[habi,hne,td,reduceCtorEq]
  try trivial
def entCk1:Ent:=⟨41,.cons Z22 (.cons Z22 .nil),.bool,false,none,fun _=>True,fun x=>decide ((x.1:DPlan)=x.2.1)⟩
def csCk1:List Ent:=[entEqSt,entEqLg,entEqIn] theorem hcsCk1 (f:FuncId):findEnt csCk1 f=findEnt [entEqSt,entEqLg,entEqIn] f:=rfl
theorem conCk1:Con Tryz.prog entCk1:=by
 refine con_is (C:=csCk1) z41 (by kernel_rfl) (by simp[csCk1,conEqSt,conEqLg,conEqIn]) fun x hx hf=>?_;obtain ⟨⟨(c:Int),(A:List DStop),(L:List DLeg),(G:List Int)⟩,⟨(c2:Int),(A2:List DStop),(L2:List DLeg),(G2:List Int)⟩,_⟩:=x;dsimp only[entCk1,z41];simp only[↓hcsCk1,entEqSt,entEqLg,entEqIn,go_sem];try simp only[td,reduceCtorEq]
 rw[Bool.eq_iff_iff];simp only[Bool.and_eq_true,beq_iff_eq,decide_eq_true_eq,Prod.mk.injEq,and_assoc]
def entCk2:Ent:=⟨45,.cons Z24 (.cons Z24 .nil),.bool,false,none,fun _=>True,fun x=>decide ((x.1:DCase)=x.2.1)⟩
def csCk2:List Ent:=[entEqIn] theorem hcsCk2 (f:FuncId):findEnt csCk2 f=findEnt [entEqIn] f:=rfl
theorem conCk2:Con Tryz.prog entCk2:=by
 refine con_is (C:=csCk2) z45 (by kernel_rfl) (by simp[csCk2,conEqIn]) fun x hx hf=>?_;obtain ⟨⟨(A:List Int),(c:Int)⟩,⟨(A2:List Int),(c2:Int)⟩,_⟩:=x;dsimp only[entCk2,z45];simp only[↓hcsCk2,entEqIn,go_sem];try simp only[td,reduceCtorEq]
 rw[Bool.eq_iff_iff];simp only[Bool.and_eq_true,beq_iff_eq,decide_eq_true_eq,Prod.mk.injEq];exact ⟨fun h=>⟨h.2,h.1⟩,fun h=>⟨h.2,h.1⟩⟩
def chkR (w:DWorld) (ps:List DPlan) (b:Int) (o:List Int) (after:List DPlan) (lost:List Int) (proof:List DCase):Int:=
 if (bestR w ps b o).2.2.2≠0 then (bestR w ps b o).2.2.2 else if (bestR w ps b o).1=after∧(bestR w ps b o).2.1=lost∧(bestR w ps b o).2.2.1=proof then 0 else 23
def entCh8:Ent:=⟨16,.cons Z21 (.cons Z23 (.cons Z1 (.cons Z5 (.cons Z23 (.cons Z5 (.cons Z25 .nil)))))),(.int .i64),false,none,fun x=>entBsX.pre (x.1,x.2.1,x.2.2.1,x.2.2.2.1,()),fun x=>chkR x.1 x.2.1 x.2.2.1 x.2.2.2.1 x.2.2.2.2.1 x.2.2.2.2.2.1 x.2.2.2.2.2.2.1⟩
def csCh8:List Ent:=[entBsX,entEqFP,entEqFC,entEqIn,entCk1,entCk2] theorem hcsCh8 (f:FuncId):findEnt csCh8 f=findEnt [entBsX,entEqFP,entEqFC,entEqIn,entCk1,entCk2] f:=rfl
set_option maxHeartbeats 4000000 in
theorem conCh8 (hB:Con Tryz.prog entBsX):Con Tryz.prog entCh8:=by
 refine con_is (C:=csCh8) z16 (by kernel_rfl) (by simp[csCh8,hB,conEqFP,conEqFC,conEqIn,conCk1,conCk2]) fun x hx hf=>?_;obtain ⟨⟨(N:Int),(A:List DArc),(C:List DCar),(Q:List DReq),(P:List DPair),(S1:Int),(S2:Int),(S3:Int)⟩,(ps:List DPlan),(b:Int),(o:List Int),(af:List DPlan),(lo:List Int),(pr:List DCase),_⟩:=x;obtain ⟨⟨⟨h1,h2⟩,h3⟩,h4⟩:((ps.length≤1000∧o.length≤1000)∧(o.length≤2∨4<o.length))∧∀p∈ps,p.2.1.length≤16:=hx;dsimp only[entCh8,z16];obtain ⟨⟨r1,r2,r3,r4⟩,hR⟩:∃r,bestR (N,A,C,Q,P,S1,S2,S3) ps b o=r:=⟨_,rfl⟩;simp only[↓hcsCh8,entBsX,entEqFP,entEqFC,entEqIn,entCk1,entCk2,undef,hR,h1,h2,h3,h4,go_sem];try simp only[hR,h1,h2,h3,h4,td,reduceCtorEq]
 have hC:chkR (N,A,C,Q,P,S1,S2,S3) ps b o af lo pr=if r4≠0 then r4 else if r1=af∧r2=lo∧r3=pr then 0 else 23:=by unfold chkR;rw[hR]
 refine ⟨h4,fun h=>?_,fun h=>⟨fun g=>?_,fun g=>?_⟩⟩
 ·rw[hC,if_pos h]
 ·rw[hC,if_neg (fun z=>z h),if_neg (fun z=>g.elim (fun g=>g.elim (· z.1) (· z.2.1)) (· z.2.2))]
 ·rw[hC,if_neg (fun z=>z h),if_pos ⟨g.1.1,g.1.2,g.2⟩]
end T
end Go.Proofs.YtpocfbfmjippnaaGreat
end
